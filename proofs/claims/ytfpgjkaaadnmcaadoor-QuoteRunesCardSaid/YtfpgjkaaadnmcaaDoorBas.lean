/- The base: rows of numbers in memory, digits, strings of bytes (of no program; out of the field's texts). -/
import Derived.Test.YtfpgjkaaadnmcaaDoorProg
import Derived.Test.YtfpgjkaaadnmcaaDoorWMore
import Derived.Test.YtfpgjkaaadnmcaaDoorWTab
import Derived.Test.YtfpgjkaaadnmcaaDoorWRepsOne
import Derived.Test.YtfpgjkaaadnmcaaDoorWLast
import Derived.Test.YtfpgjkaaadnmcaaDoorWWords
import Derived.Below
import Derived.OwnWalk
import Derived.Laws.OwnMore
import Derived.Tactics
import Derived.Laws.Slices
import Derived.WalkKit
import Derived.KernelRfl
import Derived.Deep.LoopGhost
import Derived.Deep.QuietTactic
import Derived.BigQuiet
import Derived.Deep.CutBlock
import Derived.Laws.BitsLemmas
import Derived.Laws.BitsAllLaws
import Derived.Laws.Rows
import Derived.Laws.NewBlocks
import Derived.RowKit
import Derived.Laws.IdiomCopy
import Derived.Deep.RegionHeld3
import Derived.ChangeKeysEq
import Derived.Laws.BytesArg
import Derived.Laws.StructEq
import Derived.Deep.RegionWith
import Derived.WideKeyArr2
import Derived.Lib.Mul64
import Derived.Laws.Externs
import Derived.ChangeSlices
namespace Go.Proofs.YtfpgjkaaadnmcaaDoor.P
set_option linter.unusedVariables false
set_option linter.unusedSimpArgs false
open Go.RowKit Go.ChangeShapes Go.WideShapes Go.Proofs.YtfpgjkaaadnmcaaDoorW.PrintWords Go.Proofs.YtfpgjkaaadnmcaaDoorW.PrintLast Go.Proofs.YtfpgjkaaadnmcaaDoorW.PrintMore
@[local go_sem] theorem setCell_drewN (w : World) (n : Nat) (a : Addr) (v : Value) : (w.drewN n).setCell a v = (w.setCell a v).drewN n := rfl
/-- A fact that the walk shall not use. -/
structure Aside0 (p : Prop) : Prop where
  out : p
theorem bel_drewN {B : Nat} {w W : World} (h : Below B w W) (n : Nat) : Below B w (W.drewN n) := ⟨h.os, h.tape, h.output, h.size, h.block⟩
theorem bel_two (w : World) (a b : Obj) : Below w.heap.size w ((w.alloc a).alloc b) := ((Below.refl _ _).alloc (Nat.le_refl _) a).alloc (by have := ((Below.refl w.heap.size w).alloc (Nat.le_refl _) a).size; exact this) b
theorem u64w (x : Int) (h0 : 0 ≤ x) (h1 : x < 18446744073709551616) : IntKind.u64.wrap x = x := by
  have : x % 18446744073709551616 = x := by omega
  exact this
theorem three_new (w : World) (a b c : Obj) : (((w.alloc a).alloc b).alloc c).heap[w.heap.size + 1 + 1]? = some c := by
  have h := heap_alloc_new ((w.alloc a).alloc b) c
  have e : ((w.alloc a).alloc b).heap.size = w.heap.size + 1 + 1 := by simp
  rwa [e] at h
theorem bel_three (w : World) (a b c : Obj) : Below w.heap.size w (((w.alloc a).alloc b).alloc c) := (bel_two w a b).alloc (bel_two w a b).size c
theorem bel_set {B : Nat} {w W : World} (h : Below B w W) (a : Addr) (v : Value) (ha : B ≤ a.block) : Below B w (W.setCell a v) := h.setCell ha v
/-- Values put one behind the other into a row. -/
def putA : Array Value → Nat → List Value → Array Value
  | cs, _, [] => cs
  | cs, o, v :: r => putA (cs.setIfInBounds o v) (o + 1) r
theorem setCells_row {g : Nat} {t : TypeId} : ∀ (vs : List Value) (o : Nat) (w : World) (cs : Array Value), w.heap[g]? = some (.cells cs t (0, 0)) → (w.setCells g o vs).heap[g]? = some (.cells (putA cs o vs) t (0, 0))
  | [], _, _, _, h => h
  | v :: r, o, w, cs, h => setCells_row r (o + 1) _ _ (heap_setCell_same w g o cs t v h)
theorem putA_size : ∀ (vs : List Value) (o : Nat) (cs : Array Value), (putA cs o vs).size = cs.size
  | [], _, _ => rfl
  | v :: r, o, cs => by rw [putA, putA_size r]; simp
theorem putA_get : ∀ (vs : List Value) (o : Nat) (cs : Array Value) (j : Nat), o + vs.length ≤ cs.size → (putA cs o vs)[j]? = if o ≤ j ∧ j < o + vs.length then vs[j - o]? else cs[j]?
  | [], o, cs, j, h => by
    have : ¬ (o ≤ j ∧ j < o + ([] : List Value).length) := by simp only [List.length_nil]; omega
    rw [if_neg this]; rfl
  | v :: r, o, cs, j, h => by
    simp only [List.length_cons] at h
    rw [putA, putA_get r (o + 1) _ j (by simp; omega)]
    simp only [List.length_cons]
    by_cases h1 : j = o
    · subst h1
      rw [if_neg (by omega), if_pos (by omega)]
      simp only [Nat.sub_self, List.getElem?_cons_zero]
      rw [Array.getElem?_setIfInBounds_self_of_lt (by omega)]
    · rw [Array.getElem?_setIfInBounds_ne (by omega)]
      by_cases h2 : o ≤ j ∧ j < o + (r.length + 1)
      · rw [if_pos (by omega), if_pos h2]
        have e : j - o = (j - (o + 1)) + 1 := by omega
        rw [e, List.getElem?_cons_succ]
      · rw [if_neg (by omega), if_neg h2]
theorem putA_full (vs : List Value) (cs : Array Value) (h : vs.length = cs.size) : putA cs 0 vs = vs.toArray := by
  apply Array.ext_getElem?
  intro j
  rw [putA_get vs 0 cs j (by omega)]
  simp only [Nat.zero_le, true_and, Nat.zero_add, Nat.sub_zero, List.getElem?_toArray]
  by_cases hj : j < vs.length
  · rw [if_pos hj]
  · rw [if_neg hj, Array.getElem?_eq_none (by omega), List.getElem?_eq_none (by omega)]
theorem row_set_all {w : World} {g : Nat} {t : TypeId} {cs vs : Array Value} (hg : w.heap[g]? = some (.cells cs t (0, 0))) (hs : vs.size = cs.size) : (w.setCells g 0 vs.toList).heap[g]? = some (.cells vs t (0, 0)) := by
  have h := setCells_row vs.toList 0 w cs hg
  rw [putA_full _ _ (by simpa using hs)] at h
  simpa using h
theorem bel_setCells {B g : Nat} {w : World} (hg : B ≤ g) : ∀ (vs : List Value) (o : Nat) (W : World), Below B w W → Below B w (W.setCells g o vs)
  | [], _, _, h => h
  | v :: r, o, W, h => bel_setCells hg r (o + 1) _ (h.setCell hg v)
theorem setCells_size (g : Nat) : ∀ (vs : List Value) (o : Nat) (W : World), (W.setCells g o vs).heap.size = W.heap.size
  | [], _, _ => rfl
  | v :: r, o, W => by rw [World.setCells, setCells_size g r]; simp [World.setCell]
theorem setCells_other {g k : Nat} (h : k ≠ g) : ∀ (vs : List Value) (o : Nat) (W : World), (W.setCells g o vs).heap[k]? = W.heap[k]?
  | [], _, _ => rfl
  | v :: r, o, W => by rw [World.setCells, setCells_other h r]; exact heap_setCell_other _ _ _ _ h
theorem run_storeVar_row {P : Program} (ty : TypeId) (ie : TypeInfo) (hie : P.info? ty = some ie) (g : Nat) (t : TypeId) (cs vs : Array Value) (w : World) (hg : w.heap[g]? = some (.cells cs t (0, 0))) (hs : vs.size = cs.size) (hi : cs.size = ie.size)
    (h1 : ∀ v ∈ vs.toList, v.oneCell' = true) : (storeVar ty ⟨g, 0, none⟩ (.agg vs)).run P w = .ok () (w.setCells g 0 vs.toList) := by
  have h := run_storeCells_cells (P := P) g 0 vs.toList 0 w
    (fun k hk => by
      rw [Nat.add_zero, Nat.zero_add, cell_of_row w g k cs t _ hg, Array.getElem?_eq_getElem (by simp at hk; omega)]; rfl)
    (fun k hk => frozen_of_row w g _ cs t hg) h1
  have hti : (typeInfo ty).run P w = .ok ie w := by simp [typeInfo, hie]
  simp [storeVar, Value.cells, sizeOf, hti, hs, hi, h, Result.andThen]
theorem wpList_store_row {P : Program} {ops : Array Oper} {rest : List Oper} {o : Oper} {a : Act} {w : World} {Q : Exit → Act → World → Prop} (hgd : o.guard = none) (ty : TypeId) (x y : Operand) (ho : o.op = .store ty x y)
    (g : Nat) (hx : a.eval x = .pointer (some ⟨g, 0, none⟩)) (vs : Array Value) (hy : a.eval y = .agg vs) (ie : TypeInfo) (hie : P.info? ty = some ie) (t : TypeId) (cs : Array Value) (hg : w.heap[g]? = some (.cells cs t (0, 0)))
    (hs : vs.size = cs.size) (hi : cs.size = ie.size) (h1 : ∀ v ∈ vs.toList, v.oneCell' = true)
    (h : wpList P ops Q rest (a.put o.dst undef) (w.setCells g 0 vs.toList)) : wpList P ops Q (o :: rest) a w := by
  refine wpList_plain hgd fun K hK => ?_
  unfold Oper.wp execOp
  simp only [ho, hx, hy, Instr.storeAt, Instr.sureAddr, Sem.run_bind, Sem.run_pure, Result.andThen_ok, run_storeVar_row ty ie hie g t cs vs w hg hs hi h1]
  exact hK _ _ h
/-- A row of n numbers of a kind. -/
def FR (k : IntKind) (n : Nat) (f : Nat → Int) : Array Value := ((List.range n).map fun i => Value.int k (f i)).toArray
theorem FR_size (k : IntKind) (n : Nat) (f : Nat → Int) : (FR k n f).size = n := by simp [FR]
theorem FR_at (k : IntKind) (n : Nat) (f : Nat → Int) (i : Nat) (h : i < n) : (FR k n f)[i]? = some (.int k (f i)) := by simp [FR, h]
theorem FR_out (k : IntKind) (n : Nat) (f : Nat → Int) (i : Nat) (h : ¬ i < n) : (FR k n f)[i]? = none := by
  apply Array.getElem?_eq_none; rw [FR_size]; omega
theorem FR_one (k : IntKind) (n : Nat) (f : Nat → Int) : ∀ v ∈ (FR k n f).toList, v.oneCell' = true := by
  intro v hv
  simp only [FR, List.mem_map] at hv
  obtain ⟨i, _, rfl⟩ := hv
  rfl
/-- A row with one number turned. -/
def upd (f : Nat → Int) (i : Nat) (x : Int) : Nat → Int := fun j => if j = i then x else f j
theorem upd_same (f : Nat → Int) (i : Nat) (x : Int) : upd f i x i = x := if_pos rfl
theorem upd_other (f : Nat → Int) (i j : Nat) (x : Int) (h : j ≠ i) : upd f i x j = f j := if_neg h
theorem FR_congr (k : IntKind) (n : Nat) (f f' : Nat → Int) (h : ∀ i, i < n → f i = f' i) : FR k n f = FR k n f' := by
  unfold FR
  congr 1
  apply List.map_congr_left
  intro i hi
  rw [h i (List.mem_range.1 hi)]
theorem FR_set (k : IntKind) (n : Nat) (f : Nat → Int) (i : Nat) (x : Int) (h : i < n) : (FR k n f).setIfInBounds i (.int k x) = FR k n (upd f i x) := by
  apply Array.ext_getElem?
  intro j
  by_cases hj : j = i
  · subst hj
    rw [Array.getElem?_setIfInBounds_self_of_lt (by rw [FR_size]; exact h), FR_at _ _ _ _ h, upd_same]
  · rw [Array.getElem?_setIfInBounds_ne (fun e => hj e.symm)]
    by_cases hn : j < n
    · rw [FR_at _ _ _ _ hn, FR_at _ _ _ _ hn, upd_other _ _ _ _ hj]
    · rw [FR_out _ _ _ _ hn, FR_out _ _ _ _ hn]
/-- A block that is a row of numbers. -/
def Row (w : World) (g : Nat) (k : IntKind) (n : Nat) (f : Nat → Int) (t : TypeId) : Prop := w.heap[g]? = some (.cells (FR k n f) t (0, 0))
theorem Row.cell {w : World} {g : Nat} {k : IntKind} {n : Nat} {f : Nat → Int} {t : TypeId} (h : Row w g k n f t) (i : Nat) (hi : i < n) : w.cell? ⟨g, i, none⟩ = some (.int k (f i)) := by
  rw [cell_of_row w g i _ t _ h, FR_at _ _ _ _ hi]
theorem Row.fro {w : World} {g : Nat} {k : IntKind} {n : Nat} {f : Nat → Int} {t : TypeId} (h : Row w g k n f t) (i : Nat) : w.frozen? ⟨g, i, none⟩ = false := frozen_of_row w g i _ t h
theorem Row.set {w : World} {g : Nat} {k : IntKind} {n : Nat} {f : Nat → Int} {t : TypeId} (h : Row w g k n f t) (i : Nat) (x : Int) (hi : i < n) : Row (w.setCell ⟨g, i, none⟩ (.int k x)) g k n (upd f i x) t := by
  have := heap_setCell_same w g i _ t (.int k x) h
  rwa [FR_set _ _ _ _ _ hi] at this
theorem Row.other {w : World} {g : Nat} {k : IntKind} {n : Nat} {f : Nat → Int} {t : TypeId} (h : Row w g k n f t) (a : Addr) (v : Value) (ha : g ≠ a.block) : Row (w.setCell a v) g k n f t :=
  (heap_setCell_other w a g v ha).trans h
theorem Row.lt {w : World} {g : Nat} {k : IntKind} {n : Nat} {f : Nat → Int} {t : TypeId} (h : Row w g k n f t) : g < w.heap.size := (Array.getElem?_eq_some_iff.1 h).1
theorem Row.alloc {w : World} {g : Nat} {k : IntKind} {n : Nat} {f : Nat → Int} {t : TypeId} (h : Row w g k n f t) (o : Obj) : Row (w.alloc o) g k n f t := by
  have hlt := h.lt
  have e : (w.alloc o).heap[g]? = w.heap[g]? := Below.heap_alloc w o g hlt
  exact e.trans h
theorem Row.new (w : World) (k : IntKind) (n : Nat) (f : Nat → Int) (t : TypeId) : Row (w.alloc (.cells (FR k n f) t)) w.heap.size k n f t := heap_alloc_new w _
theorem Row.below {w w' : World} {B g : Nat} {k : IntKind} {n : Nat} {f : Nat → Int} {t : TypeId} (h : Row w g k n f t) (hb : Below B w w') (hg : g < B) : Row w' g k n f t := (hb.block g hg).trans h
theorem Row.drewN {w : World} {g : Nat} {k : IntKind} {n : Nat} {f : Nat → Int} {t : TypeId} (h : Row w g k n f t) (m : Nat) : Row (w.drewN m) g k n f t := h
theorem Row.all {w : World} {g : Nat} {k : IntKind} {n : Nat} {f f' : Nat → Int} {t : TypeId} (h : Row w g k n f t) : Row (w.setCells g 0 (FR k n f').toList) g k n f' t := row_set_all h (by rw [FR_size, FR_size])
theorem Row.cells_other {w : World} {g g' : Nat} {k : IntKind} {n : Nat} {f : Nat → Int} {t : TypeId} (h : Row w g k n f t) (vs : List Value) (hg : g ≠ g') : Row (w.setCells g' 0 vs) g k n f t := (setCells_other hg vs 0 w).trans h
/-- A whole row of numbers, read. -/
theorem step_load {P : Program} {ops : Array Oper} {rest : List Oper} {o : Oper} {a : Act} {w : World} {Q : Exit → Act → World → Prop} {k : IntKind} {n : Nat} {f : Nat → Int} {t ty : TypeId} {x : Operand} {g : Nat} {d : TypeDesc}
    (hr : Row w g k n f t) (hu : P.underlying ty = some d) (hi : (P.info? ty).map (·.size) = some n) (hd : (match d with | .struct _ | .array _ _ => true | _ => false) = true) (hgd : o.guard = none) (ho : o.op = .load ty x) (hx : a.eval x = .pointer (some ⟨g, 0, none⟩))
    (h : wpList P ops Q rest (a.put o.dst (.agg (FR k n f))) w) : wpList P ops Q (o :: rest) a w :=
  wpList_load_row hgd ty x ho g hx t (FR k n f) (0, 0) d hr hu hd (by rw [FR_size]; exact hi) h
/-- A whole row of numbers, stored. -/
theorem step_store {P : Program} {ops : Array Oper} {rest : List Oper} {o : Oper} {a : Act} {w : World} {Q : Exit → Act → World → Prop} {k : IntKind} {n : Nat} {f : Nat → Int} {t ty : TypeId} {x y : Operand} {g : Nat}
    (f' : Nat → Int) (hr : Row w g k n f t) (hi : (P.info? ty).map (·.size) = some n) (hgd : o.guard = none) (hdst : o.dst = none) (ho : o.op = .store ty x y) (hx : a.eval x = .pointer (some ⟨g, 0, none⟩)) (hy : a.eval y = .agg (FR k n f'))
    (h : wpList P ops Q rest a (w.setCells g 0 (FR k n f').toList)) : wpList P ops Q (o :: rest) a w := by
  obtain ⟨ie, hie, hs⟩ : ∃ ie, P.info? ty = some ie ∧ ie.size = n := by
    cases he : P.info? ty with
    | none => rw [he] at hi; cases hi
    | some ie => rw [he] at hi; exact ⟨ie, rfl, Option.some.inj hi⟩
  exact wpList_store_row hgd ty x y ho g hx (FR k n f') hy ie hie t (FR k n f) hr (by rw [FR_size, FR_size]) (by rw [FR_size, hs]) (FR_one k n f') (by rw [hdst]; exact h)
/-- The world behind a whole row's store. -/
structure Stored (w w' : World) (g : Nat) : Prop where
  other : ∀ k, k ≠ g → w'.heap[k]? = w.heap[k]?
  size : w'.heap.size = w.heap.size
  bel : ∀ B W, B ≤ g → Below B W w → Below B W w'
theorem Row.stored {w w' : World} {g g' : Nat} {k : IntKind} {n : Nat} {f : Nat → Int} {t : TypeId} (h : Row w g k n f t) (hs : Stored w w' g') (hg : g ≠ g') : Row w' g k n f t := (hs.other g hg).trans h
theorem step_storeG {P : Program} {ops : Array Oper} {rest : List Oper} {o : Oper} {a : Act} {w : World} {Q : Exit → Act → World → Prop} {k : IntKind} {n : Nat} {f : Nat → Int} {t ty : TypeId} {x y : Operand} {g : Nat}
    (f' : Nat → Int) (hr : Row w g k n f t) (hi : (P.info? ty).map (·.size) = some n) (hgd : o.guard = none) (hdst : o.dst = none) (ho : o.op = .store ty x y) (hx : a.eval x = .pointer (some ⟨g, 0, none⟩)) (hy : a.eval y = .agg (FR k n f'))
    (h : ∀ w', Stored w w' g → Row w' g k n f' t → wpList P ops Q rest a w') : wpList P ops Q (o :: rest) a w :=
  step_store f' hr hi hgd hdst ho hx hy (h _ ⟨fun k hk => setCells_other hk _ _ _, setCells_size g _ _ _, fun B W hB hb => bel_setCells hB _ _ _ hb⟩ hr.all)
/-- The end of a function whose result is a row. -/
theorem row_results {P : Program} {fn : Func} {p : Tmp} {ty : TypeId} (h : fn.results = #[.cell p ty]) {tmps : Array Value} {w : World} {g : Nat} {k : IntKind} {n : Nat} {f : Nat → Int} {t : TypeId} {d : TypeDesc}
    (hr : Row w g k n f t) (hp : tmps.getD p undef = .pointer (some ⟨g, 0, none⟩)) (hu : P.underlying ty = some d) (hd : (match d with | .struct _ | .array _ _ => true | _ => false) = true) (hi : (P.info? ty).map (·.size) = some n) :
    (results fn tmps).run P w = .ok (.agg (FR k n f)) w :=
  results_cell_row h tmps w g t (FR k n f) (0, 0) d hp hr hu hd (by rw [FR_size]; exact hi)
theorem w64 (n : Int) (h : -9223372036854775808 ≤ n ∧ n ≤ 9223372036854775807) : wrap64 n = n := by unfold wrap64; omega
theorem meas_up (n : Nat) (i : Nat) (h : i < n) : n - (intOf (Value.int IntKind.i64 ((i : Int) + 1))).toNat < n - (intOf (Value.int IntKind.i64 (i : Int))).toNat := by
  have e1 : intOf (Value.int IntKind.i64 ((i : Int) + 1)) = (i : Int) + 1 := rfl
  have e2 : intOf (Value.int IntKind.i64 (i : Int)) = (i : Int) := rfl
  rw [e1, e2]; omega
/-- A string's bytes as numbers. -/
def sB (s : ByteArray) (i : Nat) : Int := ((s[i]?.getD 0).toNat : Int)
theorem sB_b (s : ByteArray) (i : Nat) : 0 ≤ sB s i ∧ sB s i < 256 := by
  unfold sB
  have := (s[i]?.getD 0).toNat_lt
  omega
theorem sB_at (s : ByteArray) (i : Nat) (h : i < s.size) : ∃ c : UInt8, (∀ h : i < s.size, s[i]'h = c) ∧ (c.toNat : Int) = sB s i := by
  have e : s[i]? = some s[i] := getElem?_pos s i h
  exact ⟨s[i], fun _ => rfl, by unfold sB; rw [e]; rfl⟩
theorem i64w (x : Int) (h : -9223372036854775808 ≤ x ∧ x ≤ 9223372036854775807) : IntKind.i64.wrap x = x := by
  have e : IntKind.i64.wrap x = if x % 18446744073709551616 ≥ 9223372036854775808 then x % 18446744073709551616 - 18446744073709551616 else x % 18446744073709551616 := by
    unfold IntKind.wrap; simp [IntKind.bits, IntKind.signed]
  rw [e]; split <;> omega
theorem row_eq {w : World} {g : Nat} {k : IntKind} {n : Nat} {f f' : Nat → Int} {t : TypeId} (h : Row w g k n f t) (e : ∀ i, i < n → f i = f' i) : Row w g k n f' t := by
  unfold Row; rw [← FR_congr k n f f' e]; exact h
theorem part_step {w : World} {g : Nat} {k : IntKind} {n : Nat} {t : TypeId} {F G : Nat → Int} {i : Nat} {a : Addr} (h : Row w g k n (fun j => if j < i then F j else G j) t) (hi : i < n) :
    Row (w.setCell ⟨g, i, none⟩ (.int k (F i))) g k n (fun j => if j < i + 1 then F j else G j) t :=
  row_eq (h.set i (F i) hi) (fun j hj => by
    unfold upd
    by_cases hji : j = i
    · subst hji; rw [if_pos rfl, if_pos (by omega)]
    · rw [if_neg hji]
      show (if j < i then F j else G j) = _
      by_cases hjl : j < i
      · rw [if_pos hjl, if_pos (by omega)]
      · rw [if_neg hjl, if_neg (by omega)])
theorem toNat2 (i : Nat) : (2 * (i : Int)).toNat = 2 * i := by omega
theorem toNat21 (i : Nat) : (2 * (i : Int) + 1).toNat = 2 * i + 1 := by omega
/-- The number that n digits are, the lowest first. -/
def val (B : Int) (f : Nat → Int) : Nat → Int
  | 0 => 0
  | n + 1 => val B f n + f n * B ^ n
/-- A number's digit. -/
def dig (B N : Int) (i : Nat) : Int := N / B ^ i % B
theorem val_congr (B : Int) (f g : Nat → Int) : ∀ n, (∀ i, i < n → f i = g i) → val B f n = val B g n
  | 0, _ => rfl
  | n + 1, h => by rw [val, val, val_congr B f g n (fun i hi => h i (by omega)), h n (by omega)]
theorem val_add (B : Int) (f g : Nat → Int) : ∀ n, val B (fun i => f i + g i) n = val B f n + val B g n
  | 0 => rfl
  | n + 1 => by
    have := val_add B f g n
    simp only [val, this]; grind
theorem val_sub (B : Int) (f g : Nat → Int) : ∀ n, val B (fun i => f i - g i) n = val B f n - val B g n
  | 0 => rfl
  | n + 1 => by
    have := val_sub B f g n
    simp only [val, this]; grind
theorem pow_pos' (B : Int) (hB : 0 < B) (n : Nat) : 0 < B ^ n := Int.pow_pos hB
theorem val_b (B : Int) (hB : 0 < B) (f : Nat → Int) : ∀ n, (∀ i, i < n → 0 ≤ f i ∧ f i < B) → 0 ≤ val B f n ∧ val B f n < B ^ n
  | 0, _ => by simp [val]
  | n + 1, h => by
    have h1 := val_b B hB f n (fun i hi => h i (by omega))
    have h2 := h n (by omega)
    have h3 := pow_pos' B hB n
    have h4 : 0 ≤ f n * B ^ n := Int.mul_nonneg h2.1 (by omega)
    have h5 : (f n + 1) * B ^ n ≤ B * B ^ n := Int.mul_le_mul_of_nonneg_right (by omega) (by omega)
    rw [val, Int.pow_succ]
    have h6 : (f n + 1) * B ^ n = f n * B ^ n + B ^ n := by grind
    have h7 : B ^ n * B = B * B ^ n := by grind
    omega
/-- The carry into digit i. -/
def cy (B : Int) (f : Nat → Int) : Nat → Int
  | 0 => 0
  | i + 1 => (f i + cy B f i) / B
theorem cy_val (B : Int) (hB : 0 < B) (f : Nat → Int) : ∀ n, val B (fun i => (f i + cy B f i) % B) n + cy B f n * B ^ n = val B f n
  | 0 => by simp [val, cy]
  | n + 1 => by
    have h1 := cy_val B hB f n
    have h2 := Int.emod_add_mul_ediv (f n + cy B f n) B
    have e : cy B f (n + 1) = (f n + cy B f n) / B := rfl
    rw [val, e, Int.pow_succ]
    show val B (fun i => (f i + cy B f i) % B) n + (f n + cy B f n) % B * B ^ n + (f n + cy B f n) / B * (B ^ n * B) = val B f n + f n * B ^ n
    grind
theorem cy_div (B : Int) (hB : 0 < B) (f : Nat → Int) (n : Nat) : cy B f n = val B f n / B ^ n ∧ val B (fun i => (f i + cy B f i) % B) n = val B f n % B ^ n := by
  have h1 := cy_val B hB f n
  have h2 := val_b B hB (fun i => (f i + cy B f i) % B) n (fun i _ => ⟨Int.emod_nonneg _ (by omega), Int.emod_lt_of_pos _ hB⟩)
  have h3 := pow_pos' B hB n
  have e : val B f n = val B (fun i => (f i + cy B f i) % B) n + B ^ n * cy B f n := by rw [← h1]; grind
  rw [e]
  constructor
  · rw [Int.add_mul_ediv_left _ _ (by omega), Int.ediv_eq_zero_of_lt h2.1 h2.2, Int.zero_add]
  · rw [Int.add_mul_emod_self_left, Int.emod_eq_of_lt h2.1 h2.2]
theorem val_dig (B : Int) (hB : 0 < B) (N : Int) : ∀ n, val B (dig B N) n = N % B ^ n
  | 0 => by simp [val, Int.emod_one]
  | n + 1 => by
    rw [val, val_dig B hB N n, Int.pow_succ]
    have h1 := Int.emod_add_mul_ediv N (B ^ n)
    have h2 := Int.emod_add_mul_ediv (N / B ^ n) B
    have h3 := pow_pos' B hB n
    have b1 := Int.emod_nonneg N (show B ^ n ≠ 0 by omega)
    have b2 := Int.emod_lt_of_pos N h3
    have b3 := Int.emod_nonneg (N / B ^ n) (show B ≠ 0 by omega)
    have b4 := Int.emod_lt_of_pos (N / B ^ n) hB
    unfold dig
    have e : N = (N % B ^ n + N / B ^ n % B * B ^ n) + (B ^ n * B) * (N / B ^ n / B) := by grind
    have b5 : 0 ≤ N / B ^ n % B * B ^ n := Int.mul_nonneg b3 (by omega)
    have b6 : (N / B ^ n % B + 1) * B ^ n ≤ B * B ^ n := Int.mul_le_mul_of_nonneg_right (by omega) (by omega)
    have b7 : (N / B ^ n % B + 1) * B ^ n = N / B ^ n % B * B ^ n + B ^ n := by grind
    have b8 : B ^ n * B = B * B ^ n := by grind
    have e2 : N % (B ^ n * B) = (N % B ^ n + N / B ^ n % B * B ^ n) := by
      conv => lhs; rw [e]
      rw [Int.add_mul_emod_self_left, Int.emod_eq_of_lt (by omega) (by omega)]
    rw [e2]
theorem dig_b (B : Int) (hB : 0 < B) (N : Int) (i : Nat) : 0 ≤ dig B N i ∧ dig B N i < B := ⟨Int.emod_nonneg _ (by omega), Int.emod_lt_of_pos _ hB⟩
/-- Right digits are the number's digits. -/
theorem dig_val (B : Int) (hB : 0 < B) (f : Nat → Int) : ∀ n, (∀ i, i < n → 0 ≤ f i ∧ f i < B) → ∀ i, i < n → f i = dig B (val B f n) i
  | 0, _ => fun i hi => absurd hi (by omega)
  | n + 1, h => fun i hi => by
    have h1 := val_b B hB f n (fun i hi => h i (by omega))
    have h2 := h n (by omega)
    have h3 := pow_pos' B hB n
    by_cases hin : i = n
    · subst hin
      unfold dig
      rw [val, Int.add_mul_ediv_right _ _ (by omega), Int.ediv_eq_zero_of_lt h1.1 h1.2, Int.zero_add, Int.emod_eq_of_lt h2.1 h2.2]
    · have ih := dig_val B hB f n (fun i hi => h i (by omega)) i (by omega)
      rw [ih]
      unfold dig
      obtain ⟨k, rfl⟩ : ∃ k, n = i + 1 + k := ⟨n - (i + 1), by omega⟩
      have hp := pow_pos' B hB i
      have e : f (i + 1 + k) * B ^ (i + 1 + k) = (f (i + 1 + k) * B ^ k * B) * B ^ i := by
        rw [Int.pow_add, Int.pow_add]; grind
      rw [val, e, Int.add_mul_ediv_right _ _ (by omega), Int.add_mul_emod_self_right]
theorem run_part_FR {P : Program} (e : TypeId) {k : IntKind} (he : P.underlying e = some (.int k)) {n : Nat} (f : Nat → Int) (i : Nat) (hi : i < n) (w : World) : (part e (FR k n f) i).run P w = .ok (.int k (f i)) w := by
  have ha : (isAgg e).run P w = .ok false w := by simp [isAgg, run_underlying he]
  simp only [part, Sem.run_bind, ha, Result.andThen_ok, FR_at _ _ _ _ hi]
  rfl
theorem run_eq_int {P : Program} (e : TypeId) {k : IntKind} (he : P.underlying e = some (.int k)) (d : Nat) (a b : Int) (w : World) : (Op.equalIn (d + 1) e (.int k a) (.int k b)).run P w = .ok (a == b) w := by
  simp only [Op.equalIn, Sem.run_bind, run_underlying he, Result.andThen_ok]
  simp
theorem run_eqItems_FR {P : Program} (e : TypeId) {k : IntKind} (he : P.underlying e = some (.int k)) {n : Nat} (f g : Nat → Int) (d : Nat) (w : World) : ∀ is : List Nat, (∀ i ∈ is, i < n) →
    (Op.eqItems (d + 1) e 1 (FR k n f) (FR k n g) is).run P w = .ok (is.all fun i => f i == g i) w
  | [], _ => by simp [Op.eqItems]
  | i :: is, h => by
    have ih := run_eqItems_FR e he f g d w is (fun j hj => h j (by simp [hj]))
    have hi := h i (by simp)
    have p1 := run_part_FR (P := P) e he f i hi w
    have p2 := run_part_FR (P := P) e he g i hi w
    have p3 := run_eq_int (P := P) e he d (f i) (g i) w
    simp only [Op.eqItems, Nat.mul_one, Sem.run_bind, p1, p2, p3, Result.andThen_ok]
    cases hb : (f i == g i)
    · simp [hb]
    · simp [hb, ih]
/-- Are the first n numbers the same? -/
def sameRow (n : Nat) (f g : Nat → Int) : Bool := decide (∀ i, i < n → f i = g i)
theorem sameRow_iff (n : Nat) (f g : Nat → Int) : sameRow n f g = true ↔ ∀ i, i < n → f i = g i := by unfold sameRow; simp
theorem run_equal_FR {P : Program} {t e : TypeId} {k : IntKind} {n : Nat} (ht : P.underlying t = some (.array n e)) (he : P.underlying e = some (.int k)) (hc : (P.info? e).map (·.size) = some 1) (f g : Nat → Int) (w : World) :
    (Op.equal t (.agg (FR k n f)) (.agg (FR k n g))).run P w = .ok (sameRow n f g) w := by
  obtain ⟨ie, hie, hs⟩ : ∃ ie, P.info? e = some ie ∧ ie.size = 1 := by
    cases h : P.info? e with
    | none => rw [h] at hc; cases hc
    | some ie => rw [h] at hc; exact ⟨ie, rfl, Option.some.inj hc⟩
  have hcell : P.cellsOf e = 1 := by simp [Program.cellsOf, hie, hs]
  have h := run_equalIn_array (P := P) w 9999 (FR k n f) (FR k n g) ht hie
  rw [hcell, run_eqItems_FR (P := P) e he f g 9998 w (List.range n) (fun i hi => List.mem_range.1 hi)] at h
  rw [show Op.equal t (.agg (FR k n f)) (.agg (FR k n g)) = Op.equalIn (9999 + 1) t (.agg (FR k n f)) (.agg (FR k n g)) from rfl, h]
  congr 1
  rw [Bool.eq_iff_iff, sameRow_iff]
  simp
theorem run_index_FR {P : Program} {t e : TypeId} {k : IntKind} {n : Nat} (ht : P.underlying t = some (.array n e)) (he : P.underlying e = some (.int k)) (hc : (P.info? e).map (·.size) = some 1) (f : Nat → Int) (i : Nat) (hi : i < n) (w : World) :
    (Instr.index t (.agg (FR k n f)) (.int .i64 (i : Int))).run P w = .ok (.int k (f i)) w := by
  obtain ⟨ie, hie, hs⟩ : ∃ ie, P.info? e = some ie ∧ ie.size = 1 := by
    cases h : P.info? e with
    | none => rw [h] at hc; cases hc
    | some ie => rw [h] at hc; exact ⟨ie, rfl, Option.some.inj hc⟩
  have h1 : (asIntOf (.int .i64 (i : Int))).run P w = .ok (IntKind.i64, (i : Int)) w := by simp [asIntOf]
  have h2 := run_part_FR (P := P) e he f i hi w
  have hin : 0 ≤ (i : Int) ∧ (i : Int) < (n : Int) := by omega
  have h3 : (typeInfo e).run P w = .ok ie w := by simp [typeInfo, hie]
  simp only [Instr.index, Sem.run_bind, h1, Result.andThen_ok, run_underlying ht, if_pos hin, sizeOf, h3, hs, Sem.run_pure, Int.toNat_natCast, Nat.mul_one, h2]
/-- Numbers below B^n are the same where their digits are. -/
theorem digs_same (B : Int) (hB : 0 < B) (n : Nat) (x y : Int) (hx : 0 ≤ x ∧ x < B ^ n) (hy : 0 ≤ y ∧ y < B ^ n) : (∀ i, i < n → dig B x i = dig B y i) ↔ x = y := by
  constructor
  · intro h
    have h1 := val_dig B hB x n
    have h2 := val_dig B hB y n
    rw [val_congr B _ _ n h] at h1
    rw [Int.emod_eq_of_lt hx.1 hx.2] at h1
    rw [Int.emod_eq_of_lt hy.1 hy.2] at h2
    rw [← h1, h2]
  · rintro rfl i _; rfl
theorem sameRow_dig (B : Int) (hB : 0 < B) (n : Nat) (x y : Int) (hx : 0 ≤ x ∧ x < B ^ n) (hy : 0 ≤ y ∧ y < B ^ n) : sameRow n (dig B x) (dig B y) = decide (x = y) := by
  rw [Bool.eq_iff_iff, sameRow_iff, digs_same B hB n x y hx hy]; simp
theorem and1 (x : Int) (h0 : 0 ≤ x) (h1 : x < 18446744073709551616) : Go.bits .and .u64 x 1 = x % 2 := by
  rw [u64_and _ _ h0 h1 (by omega) (by omega), show (1 : Int).toNat = 2 ^ 1 - 1 from rfl, Nat.and_two_pow_sub_one_eq_mod]
  omega
theorem or_bit (x b : Int) (r : Nat) (hr : r < 8) (hx : 0 ≤ x ∧ x < 2 ^ r) (hb : b = 0 ∨ b = 1) : Go.bits .or .u8 x (b % 256 * 2 ^ r % 256) = x + b * 2 ^ r := by
  have hp : (0 : Int) < 2 ^ r := Int.pow_pos (by omega)
  have h8 : (2 : Int) ^ r ≤ 128 := by
    have hc : r = 0 ∨ r = 1 ∨ r = 2 ∨ r = 3 ∨ r = 4 ∨ r = 5 ∨ r = 6 ∨ r = 7 := by omega
    rcases hc with h | h | h | h | h | h | h | h <;> subst h <;> decide
  have hv : b % 256 * 2 ^ r % 256 = b * 2 ^ r := by
    rcases hb with h | h
    · subst h; simp
    · subst h; rw [Int.emod_eq_of_lt (show (0 : Int) ≤ 1 % 256 * 2 ^ r by omega) (by omega)]; rfl
  rw [hv]
  have hb2 : 0 ≤ b * 2 ^ r ∧ b * 2 ^ r ≤ 128 := by rcases hb with h | h <;> subst h <;> omega
  rw [u8_or _ _ hx.1 (by omega) hb2.1 (by omega)]
  have e : (b * 2 ^ r).toNat = 2 ^ r * b.toNat := by
    rcases hb with h | h
    · subst h; simp
    · subst h; rw [Int.one_mul, Int.toNat_pow_of_nonneg (by omega)]; simp
  have hxn : x.toNat < 2 ^ r := by
    have : ((2 ^ r : Nat) : Int) = 2 ^ r := by simp
    omega
  rw [e, Nat.or_comm, ← Nat.two_pow_add_eq_or_of_lt hxn]
  rcases hb with h | h
  · subst h; simp; omega
  · subst h
    have : ((2 ^ r : Nat) : Int) = 2 ^ r := by simp
    simp; omega
theorem pow256 (j : Nat) : (256 : Int) ^ j = 2 ^ (8 * j) := by
  rw [Int.pow_mul]; rfl
/-- The limbs of a small number. -/
def smL (n : Int) (i : Nat) : Int := if i = 0 then n else 0
theorem exec_load {P : Program} {o : Oper} {ev : Operand → Value} {w : World} {ty : TypeId} {x : Operand} {g : Nat} {k : IntKind} {n : Nat} {f : Nat → Int} {t : TypeId} {d : TypeDesc} (hr : Row w g k n f t)
    (hu : P.underlying ty = some d) (hi : (P.info? ty).map (·.size) = some n) (hd : (match d with | .struct _ | .array _ _ => true | _ => false) = true) (ho : o.op = .load ty x) (hx : ev x = .pointer (some ⟨g, 0, none⟩)) : (execOp ev o).run P w = .ok (.value (.agg (FR k n f))) w := by
  unfold execOp
  simp only [ho, hx, Instr.loadAt, Instr.sureAddr, Sem.run_bind, Sem.run_pure, Result.andThen_ok, run_loadVar_row w g t ty _ _ d hr hu hd (by rw [FR_size]; exact hi)]
/-- 32 numbers as a string. -/
def sOf (f : Nat → Int) : ByteArray := strOfNums ((List.range 32).map f)
theorem sOf_inj (f g : Nat → Int) (hf : ∀ i, 0 ≤ f i ∧ f i < 256) (hg : ∀ i, 0 ≤ g i ∧ g i < 256) : sOf f = sOf g ↔ ∀ i, i < 32 → f i = g i := by
  constructor
  · intro h i hi
    have h1 : (((List.range 32).map f).map fun n => UInt8.ofNat n.toNat) = (((List.range 32).map g).map fun n => UInt8.ofNat n.toNat) := by
      have := congrArg (fun b : ByteArray => b.data.toList) h
      simpa [sOf, strOfNums] using this
    have h2 := congrArg (fun l => l[i]?) h1
    simp only [List.getElem?_map, List.getElem?_range hi, Option.map_some, Option.some.injEq] at h2
    have h3 := congrArg UInt8.toNat h2
    have b1 := hf i
    have b2 := hg i
    rw [UInt8.toNat_ofNat', UInt8.toNat_ofNat', Nat.mod_eq_of_lt (by omega), Nat.mod_eq_of_lt (by omega)] at h3
    omega
  · intro h
    unfold sOf
    congr 1
    apply List.map_congr_left
    intro i hi
    exact h i (List.mem_range.1 hi)
theorem beq_bytes (a b : ByteArray) : (a == b) = true ↔ a = b := by
  have e : (a == b) = (a.data == b.data) := rfl
  rw [e, beq_iff_eq]
  constructor
  · intro h; cases a; cases b; simp at h; rw [h]
  · rintro rfl; rfl
theorem sOf_same (N M : Int) (hN : 0 ≤ N ∧ N < 256 ^ 32) (hM : 0 ≤ M ∧ M < 256 ^ 32) : (sOf (dig 256 N) == sOf (dig 256 M)) = decide (N = M) := by
  rw [Bool.eq_iff_iff]
  rw [decide_eq_true_eq, beq_bytes, sOf_inj _ _ (dig_b 256 (by omega) N) (dig_b 256 (by omega) M), digs_same 256 (by omega) 32 N M hN hM]
theorem sOf_sameL (N M : Int) (hN : 0 ≤ N ∧ N < 256 ^ 32) (hM : 0 ≤ M ∧ M < 256 ^ 32) : ((sOf (dig 256 N)).toList == (sOf (dig 256 M)).toList) = decide (N = M) := by
  rw [← beq_toListBytes]; exact sOf_same N M hN hM
theorem sB_sOf (f : Nat → Int) (hf : ∀ i, i < 32 → 0 ≤ f i ∧ f i < 256) (i : Nat) (hi : i < 32) : sB (sOf f) i = f i := by
  have hs : (sOf f).size = 32 := by simp [sOf, strOfNums, ByteArray.size]
  obtain ⟨c, h1, h2⟩ := sB_at (sOf f) i (by omega)
  rw [← h2, ← h1 (by omega)]
  have h3 := hf i hi
  show (((sOf f).data[i]).toNat : Int) = f i
  simp [sOf, strOfNums]
  omega
theorem sOf_size (f : Nat → Int) : (sOf f).size = 32 := by simp [sOf, strOfNums, ByteArray.size]
theorem val_split (B : Int) (f : Nat → Int) (a : Nat) : ∀ n, val B f (a + n) = val B f a + B ^ a * val B (fun j => f (a + j)) n
  | 0 => by simp [val]
  | n + 1 => by
    have ih := val_split B f a n
    show val B f (a + n) + f (a + n) * B ^ (a + n) = val B f a + B ^ a * (val B (fun j => f (a + j)) n + f (a + n) * B ^ n)
    rw [ih, Int.pow_add]; grind
theorem val_nonneg (B : Int) (hB : 0 < B) (f : Nat → Int) : ∀ n, (∀ i, i < n → 0 ≤ f i) → 0 ≤ val B f n
  | 0, _ => by simp [val]
  | n + 1, h => by
    have h1 := val_nonneg B hB f n (fun i hi => h i (by omega))
    have h2 : 0 ≤ f n * B ^ n := Int.mul_nonneg (h n (by omega)) (Int.le_of_lt (pow_pos' B hB n))
    rw [val]; omega
theorem oper_storeG {P : Program} {o : Oper} {ops : Array Oper} {a : Act} {w : World} {K : Act → World → Prop} {Q : Exit → Act → World → Prop} {k : IntKind} {n : Nat} {f : Nat → Int} {t ty : TypeId} {x y : Operand} {g : Nat}
    (f' : Nat → Int) (hr : Row w g k n f t) (hi : (P.info? ty).map (·.size) = some n) (hw : Region.wanted o (yielded ops a.tmps) = true) (hdst : o.dst = none) (ho : o.op = .store ty x y) (hx : a.eval x = .pointer (some ⟨g, 0, none⟩)) (hy : a.eval y = .agg (FR k n f'))
    (h : ∀ w', Stored w w' g → Row w' g k n f' t → K a w') : if Region.wanted o (yielded ops a.tmps) = true then Oper.wp P o a w K Q else K (a.put none undef) w := by
  rw [if_pos hw]
  obtain ⟨ie, hie, hs⟩ : ∃ ie, P.info? ty = some ie ∧ ie.size = n := by
    cases he : P.info? ty with
    | none => rw [he] at hi; cases hi
    | some ie => rw [he] at hi; exact ⟨ie, rfl, Option.some.inj hi⟩
  unfold Oper.wp execOp
  simp only [ho, hx, hy, Instr.storeAt, Instr.sureAddr, Sem.run_bind, Sem.run_pure, Result.andThen_ok, run_storeVar_row ty ie hie g t (FR k n f) (FR k n f') w hr (by rw [FR_size, FR_size]) (by rw [FR_size, hs]) (FR_one k n f')]
  have := h _ ⟨fun k hk => setCells_other hk _ _ _, setCells_size g _ _ _, fun B W hB hb => bel_setCells hB _ _ _ hb⟩ (Row.all hr)
  show K (a.put o.dst undef) _
  rw [hdst]
  exact this
theorem val_upd (B : Int) (f : Nat → Int) (j : Nat) (x : Int) : ∀ n, j < n → val B (upd f j (f j + x)) n = val B f n + x * B ^ j
  | 0, h => absurd h (by omega)
  | n + 1, h => by
    rw [val, val]
    by_cases hj : j = n
    · subst hj
      rw [upd_same, val_congr B (upd f j (f j + x)) f j (fun i hi => upd_other _ _ _ _ (by omega))]
      grind
    · rw [val_upd B f j x n (by omega), upd_other _ _ _ _ (fun e => hj e.symm)]
      omega
theorem u8b {x : Int} (h : (Lit.int .u8 x).wf = true) : 0 ≤ x ∧ x < 256 := by
  have e1 : IntKind.u8.min = 0 := by decide
  have e2 : IntKind.u8.max = 255 := by decide
  simp [Lit.wf] at h; omega
theorem and32 (x : Nat) (h : x < 18446744073709551616) : Go.bits .and .u64 (x : Int) 4294967295 = ((x % 4294967296 : Nat) : Int) := by
  rw [u64_and _ _ (by omega) (by omega) (by omega) (by omega), show (4294967295 : Int).toNat = 2 ^ 32 - 1 from rfl, Nat.and_two_pow_sub_one_eq_mod]
  rfl
theorem lit_row (n : Int) : (#[.int .u8 n, .int .u8 0, .int .u8 0, .int .u8 0, .int .u8 0, .int .u8 0, .int .u8 0, .int .u8 0, .int .u8 0, .int .u8 0, .int .u8 0, .int .u8 0, .int .u8 0, .int .u8 0, .int .u8 0, .int .u8 0, .int .u8 0, .int .u8 0, .int .u8 0, .int .u8 0, .int .u8 0, .int .u8 0, .int .u8 0, .int .u8 0, .int .u8 0, .int .u8 0, .int .u8 0, .int .u8 0, .int .u8 0, .int .u8 0, .int .u8 0, .int .u8 0] : Array Value) = FR .u8 32 (smL n) := rfl
theorem val_succ (B : Int) (f : Nat → Int) (n : Nat) : val B f (n + 1) = val B f n + f n * B ^ n := rfl
theorem u64wm (z : Int) : IntKind.u64.wrap z = z % 18446744073709551616 := rfl
theorem bel_four (w : World) (a b c d : Obj) : Below w.heap.size w ((((w.alloc a).alloc b).alloc c).alloc d) := (bel_three w a b c).alloc (bel_three w a b c).size d
theorem four_new (w : World) (a b c d : Obj) : ((((w.alloc a).alloc b).alloc c).alloc d).heap[w.heap.size + 1 + 1 + 1]? = some d := by
  have h := heap_alloc_new (((w.alloc a).alloc b).alloc c) d
  have e : (((w.alloc a).alloc b).alloc c).heap.size = w.heap.size + 1 + 1 + 1 := by simp
  rwa [e] at h
section
variable {H : Type} {enc : TypeId × Value → H} {P : Program} {t e : TypeId} {n : Nat} {q : IntKind} {W : World} {base : Nat} {sp : Nat → Bool} {held : Bool}
/-- The number in a cell. -/
def cellInt (cs : List Value) (i : Nat) : Int := match cs[i]? with
  | some v => intOf v
  | none => 0
theorem drop_take_one {cs : List Value} {i : Nat} {v : Value} (h : (cs.drop i).take 1 = [v]) : cs[i]? = some v := by
  have h2 := congrArg (fun l => l[0]?) h
  simpa [List.getElem?_take, List.getElem?_drop] using h2
theorem take_drop_one {cs : List Value} {i : Nat} {v : Value} (h : cs[i]? = some v) : (cs.drop i).take 1 = [v] := by
  obtain ⟨hi, hv⟩ := List.getElem?_eq_some_iff.1 h
  rw [List.drop_eq_getElem_cons hi, hv]; rfl
theorem mapM_open (he : P.underlying e = some (.int q)) {m : Nat} {cs : List Value} : ∀ (L : List Nat) (xs : List (DataW H × List MemPlace)),
    L.mapM (fun i => DataW.trod enc P W base sp held m e ((cs.drop (i * 1)).take 1)) = some xs →
    xs = L.map (fun i => (.lit (.int q (cellInt cs i)), [])) ∧ ∀ i ∈ L, cs[i]? = some (.int q (cellInt cs i)) ∧ (Lit.int q (cellInt cs i)).wf = true
  | [], xs, h => by
    simp at h
    subst h
    exact ⟨rfl, by simp⟩
  | i :: L, xs, h => by
    rw [List.mapM_cons] at h
    simp only [bind, Option.bind_eq_some_iff, pure, Option.some.injEq] at h
    obtain ⟨y, hy, ys, hys, rfl⟩ := h
    obtain ⟨rfl, hl⟩ := mapM_open he L ys hys
    obtain ⟨a, ea, rfl, wa⟩ := DataW.trod_int he hy
    rw [Nat.mul_one] at ea
    have hc := drop_take_one ea
    have hi : cellInt cs i = a := by unfold cellInt; rw [hc]; rfl
    rw [← hi] at hc wa ⊢
    refine ⟨rfl, fun j hj => ?_⟩
    rcases List.mem_cons.1 hj with rfl | hj
    · exact ⟨hc, wa⟩
    · exact hl j hj
theorem mapM_shut (he : P.underlying e = some (.int q)) {m : Nat} {cs : List Value} (f : Nat → Int) : ∀ (L : List Nat), (∀ i ∈ L, cs[i]? = some (.int q (f i)) ∧ (Lit.int q (f i)).wf = true) →
    L.mapM (fun i => DataW.trod enc P W base sp held (m + 1) e ((cs.drop (i * 1)).take 1)) = some (L.map (fun i => (.lit (.int q (f i)), [])))
  | [], _ => by simp
  | i :: L, h => by
    have ih := mapM_shut he (m := m) f L (fun j hj => h j (by simp [hj]))
    have hi := h i (by simp)
    have e1 := take_drop_one hi.1
    have h1 : DataW.trod enc P W base sp held (m + 1) e [.int q (f i)] = some (.lit (.int q (f i)), []) := by
      rw [DataW.trod_step]
      unfold DataW.trodStep
      simp [he, hi.2]
    rw [List.mapM_cons, ih, Nat.mul_one, e1, h1]
    rfl
theorem open_array (ht : P.underlying t = some (.array n e)) (he : P.underlying e = some (.int q)) (hce : P.cellsOf e = 1) (hct : P.cellsOf t = n) {r : Reach} {b0 : Nat} {v : Value} (hval : Value.okWide P W r b0 t v) {d : DataW H} {ps : List MemPlace} (hd : DataW.Trod enc P W base sp held t v d ps) :
    ∃ f : Nat → Int, v = .agg (FR q n f) ∧ d = .agg ((List.range n).map fun i => .lit (.int q (f i))) ∧ ps = [] ∧ ∀ i, i < n → (Lit.int q (f i)).wf = true := by
  obtain ⟨cs, rfl⟩ : ∃ cs : Array Value, v = .agg cs := by
    simp only [Value.okWide, ht] at hval
    obtain ⟨cs, h1, _⟩ := hval
    exact ⟨cs, h1⟩
  obtain ⟨fuel, hf⟩ := hd
  cases fuel with
  | zero => simp [DataW.trod] at hf
  | succ m =>
    rw [DataW.trod_step] at hf
    unfold DataW.trodStep at hf
    simp only [ht, Value.cells, hce] at hf
    split at hf
    · rename_i hn
      simp only [Option.map_eq_some_iff] at hf
      obtain ⟨ys, hy, e1⟩ := hf
      obtain ⟨rfl, hl⟩ := mapM_open he _ ys hy
      simp only [Prod.mk.injEq] at e1
      have hsz : cs.size = n := by rw [← hct]; simpa using hn
      refine ⟨cellInt cs.toList, ?_, ?_, ?_, fun i hi => (hl i (List.mem_range.2 hi)).2⟩
      · congr 1
        apply Array.ext_getElem?
        intro i
        by_cases hi : i < n
        · have h2 := (hl i (List.mem_range.2 hi)).1
          rw [FR_at _ _ _ _ hi, ← h2]
          simp
        · rw [FR_out _ _ _ _ hi]
          exact Array.getElem?_eq_none (by omega)
      · rw [← e1.1]; simp [Function.comp_def]
      · rw [← e1.2]; simp [List.flatMap_eq_nil_iff]
    · cases hf
theorem shut_array (ht : P.underlying t = some (.array n e)) (he : P.underlying e = some (.int q)) (hce : P.cellsOf e = 1) (hct : P.cellsOf t = n) (f : Nat → Int) (hw : ∀ i, i < n → (Lit.int q (f i)).wf = true) :
    DataW.Trod enc P W base sp held t (.agg (FR q n f)) (.agg ((List.range n).map fun i => .lit (.int q (f i)))) [] := by
  refine ⟨0 + 1 + 1, ?_⟩
  rw [DataW.trod_step]
  unfold DataW.trodStep
  simp only [ht, Value.cells, hce]
  rw [if_pos (by rw [Array.length_toList, FR_size, hct])]
  rw [mapM_shut (enc := enc) (W := W) (base := base) (sp := sp) (held := held) he f (List.range n) (fun i hi => ⟨by rw [Array.getElem?_toList, FR_at _ _ _ _ (List.mem_range.1 hi)], hw i (List.mem_range.1 hi)⟩)]
  simp [Function.comp_def, List.flatMap_eq_nil_iff]
end
section
variable {H : Type} {enc : TypeId × Value → H} {P : Program} {t e q : TypeId} {n : Nat} {k : IntKind} {W : World} {base : Nat} {sp : Nat → Bool} {held : Bool}
/-- Each of len elements is an array of n numbers. -/
def IsArrs (k : IntKind) (n : Nat) (w : World) (a : Option Addr) (len : Nat) (F : Nat → Nat → Int) : Prop :=
  ∀ i, i < len → ∃ x, a = some x ∧ ∀ j, j < n → w.cell? ((x.add (i * n)).add j) = some (.int k (F i j)) ∧ (Lit.int k (F i j)).wf = true
theorem trod_array_cells (ht : P.underlying e = some (.array n q)) (he : P.underlying q = some (.int k)) (hce : P.cellsOf q = 1) (hct : P.cellsOf e = n) {m : Nat} {cs : List Value} {y : DataW H × List MemPlace}
    (hf : DataW.trod enc P W base sp held m e cs = some y) : cs.length = n ∧ ∀ j, j < n → cs[j]? = some (.int k (cellInt cs j)) ∧ (Lit.int k (cellInt cs j)).wf = true := by
  cases m with
  | zero => simp [DataW.trod] at hf
  | succ m =>
    rw [DataW.trod_step] at hf
    unfold DataW.trodStep at hf
    simp only [ht, hce] at hf
    split at hf
    · rename_i hn
      simp only [Option.map_eq_some_iff] at hf
      obtain ⟨ys, hy, e1⟩ := hf
      obtain ⟨rfl, hl⟩ := mapM_open he _ ys hy
      exact ⟨by rw [← hct]; simpa using hn, fun j hj => hl j (List.mem_range.2 hj)⟩
    · cases hf
theorem open_arrays (hts : P.underlying t = some (.slice e)) (ht : P.underlying e = some (.array n q)) (he : P.underlying q = some (.int k)) (hce : P.cellsOf q = 1) (hct : P.cellsOf e = n) {a : Option Addr} {len cap : Nat} {d : DataW H} {ps : List MemPlace}
    (hd : DataW.Trod enc P W base sp held t (.slice a len cap) d ps) : ∃ F : Nat → Nat → Int, IsArrs k n W a len F := by
  obtain ⟨fuel, hf⟩ := hd
  rcases DataW.trod_slice hts hf with ⟨h0, _⟩ | ⟨x, l, c, elems, rest, m, _, hcs, _, hb, hl, hm, hlen, hel, _⟩
  · simp [Value.cells] at h0
    obtain ⟨rfl, rfl, rfl⟩ := h0
    exact ⟨fun _ _ => 0, fun i hi => absurd hi (by omega)⟩
  · simp [Value.cells] at hcs
    obtain ⟨rfl, rfl, rfl⟩ := hcs
    have each : ∀ i, i < len → ∃ cs : List Value, W.cells? base (x.add (i * P.cellsOf e)) (P.cellsOf e) = some cs ∧ cs.length = n ∧ ∀ j, j < n → cs[j]? = some (.int k (cellInt cs j)) ∧ (Lit.int k (cellInt cs j)).wf = true := by
      intro i hi
      have h := hel i hi
      have hs : elems[i]? = some (elems[i]'(by omega)) := List.getElem?_eq_getElem (by omega)
      rw [hs, Option.bind_eq_some_iff] at h
      obtain ⟨cs, h1, h2⟩ := h
      exact ⟨cs, h1, trod_array_cells ht he hce hct h2⟩
    refine ⟨fun i j => if h : i < len then cellInt (Classical.choose (each i h)) j else 0, fun i hi => ⟨x, rfl, fun j hj => ?_⟩⟩
    have hc := Classical.choose_spec (each i hi)
    simp only [dif_pos hi]
    generalize Classical.choose (each i hi) = cs at *
    obtain ⟨h1, h2, h3⟩ := hc
    refine ⟨?_, (h3 j hj).2⟩
    rw [hct] at h1
    have h4 := World.cells?_some h1
    rw [h4.2.2 j hj]
    exact (h3 j hj).1
end
section
variable {P : Program} {ops : Array Oper} {Q : Exit → Act → World → Prop} {md : Region.Mode} {S : World → Prop} {ds : List Nat}
theorem ready_cons_free {fuel : Nat} {listed : Array Bool} {a : Act} {w : World} {i : Nat} {o : Oper} {rs : List Nat} (ho : ops[i]? = some o)
    (h : ∀ K' : Act → World → Prop, Shut (∀ a w', (S w → S w') → wpAnyLast P md ops Q S ds fuel (listed.setIfInBounds i true) a w' → K' a w') → if Region.wanted o (yielded ops a.tmps) = true then Oper.wp P o a w K' Q else K' (a.put o.dst undef) w)
    (hs : AllReadyL P md ops Q S ds fuel listed a w rs) : AllReadyL P md ops Q S ds fuel listed a w (i :: rs) := fun j hj => by
  rcases List.mem_cons.1 hj with rfl | hj
  · exact wpOp_step ho (fun K' hK => h K' (fun a w' hS hW => hK a w' ⟨fun _ h => hS h, hW⟩))
  · exact hs j hj
theorem one_free {i : Nat} {N : Option Tmp} {oi : Oper} {fuel : Nat} {l : Array Bool} {a : Act} {w : World} (l' : Array Bool) (hi : ops[i]? = some oi) (hN : oi.dst = N) (hc : readyB md ops l l' i = true)
    (h : ∀ K : Act → World → Prop, Shut (∀ a' w', (S w → S w') → wpAnyLast P md ops Q S ds fuel l' a' w' → K a' w') → if Region.wanted oi (yielded ops a.tmps) = true then Oper.wp P oi a w K Q else K (a.put N undef) w) :
    wpAnyLast P md ops Q S ds (fuel + 1) l a w := by
  subst hN
  simp only [readyB, Bool.and_eq_true, beq_iff_eq] at hc
  obtain ⟨h1, h2⟩ := hc
  subst h2
  exact wpAnyLast_ready h1 (by simp) (ready_cons_free hi (fun K hK => h K hK) AllReadyL.nil)
theorem two_fl {i j : Nat} {Ni Nj : Option Tmp} {oi oj : Oper} {fuel : Nat} {l : Array Bool} {a : Act} {w : World} (li lj : Array Bool) (hi : ops[i]? = some oi) (hj : ops[j]? = some oj) (hNi : oi.dst = Ni) (hNj : oj.dst = Nj)
    (hc : (Region.ready md ops l == [i, j] && l.setIfInBounds i true == li && l.setIfInBounds j true == lj) = true) (hdj : j ∈ ds)
    (h1 : ∀ K : Act → World → Prop, Shut (∀ a' w', (S w → S w') → wpAnyLast P md ops Q S ds fuel li a' w' → K a' w') → if Region.wanted oi (yielded ops a.tmps) = true then Oper.wp P oi a w K Q else K (a.put Ni undef) w)
    (h2 : ∀ K : Act → World → Prop, Shut (∀ a' w', wpAnyLast P md ops Q S ds fuel lj a' w' → K a' w') → if Region.wanted oj (yielded ops a.tmps) = true then Oper.wp P oj a w K Q else K (a.put Nj undef) w) :
    wpAnyLast P md ops Q S ds (fuel + 1) l a w := by
  subst hNi
  subst hNj
  simp only [Bool.and_eq_true, beq_iff_eq] at hc
  obtain ⟨⟨h3, h4⟩, h5⟩ := hc
  subst h4
  subst h5
  exact wpAnyLast_ready h3 (by simp) (ready_cons_free hi (fun K hK => h1 K hK) (AllReadyL.cons_last hj hdj (fun K hK => h2 K hK) AllReadyL.nil))
/-- A whole row of numbers, read at any address. -/
theorem step_load_at {P : Program} {ops : Array Oper} {rest : List Oper} {o : Oper} {a : Act} {w : World} {Q : Exit → Act → World → Prop} {k : IntKind} {n : Nat} {f : Nat → Int} {ty : TypeId} {x : Operand} {ad : Addr} {d : TypeDesc}
    (hr : ∀ j, j < n → w.cell? (ad.add j) = some (.int k (f j))) (hu : P.underlying ty = some d) (hi : (P.info? ty).map (·.size) = some n) (hd : (match d with | .struct _ | .array _ _ => true | _ => false) = true) (hgd : o.guard = none) (ho : o.op = .load ty x) (hx : a.eval x = .pointer (some ad))
    (h : wpList P ops Q rest (a.put o.dst (.agg (FR k n f))) w) : wpList P ops Q (o :: rest) a w := by
  obtain ⟨ie, hie, hs⟩ : ∃ ie, P.info? ty = some ie ∧ ie.size = n := by
    cases he : P.info? ty with
    | none => rw [he] at hi; cases hi
    | some ie => rw [he] at hi; exact ⟨ie, rfl, Option.some.inj hi⟩
  have hti : (typeInfo ty).run P w = .ok ie w := by simp [typeInfo, hie]
  have ha : (isAgg ty).run P w = .ok true w := by
    simp only [isAgg, Sem.run_bind, run_underlying hu, Result.andThen_ok]
    cases d <;> simp_all
  have hl : (loadCells ad n).run P w = .ok (FR k n f) w := by
    have := run_loadCells_list (P := P) w ad (FR k n f).toList (fun j v hv => by
      rw [Array.getElem?_toList] at hv
      by_cases hj : j < n
      · rw [FR_at _ _ _ _ hj] at hv; rw [hr j hj]; exact hv
      · rw [FR_out _ _ _ _ hj] at hv; cases hv)
    rw [Array.length_toList, FR_size] at this
    simpa using this
  refine wpList_plain hgd fun K hK => ?_
  unfold Oper.wp execOp
  simp only [ho, hx, Instr.loadAt, Instr.sureAddr, Sem.run_bind, Sem.run_pure, Result.andThen_ok, loadVar, ha, sizeOf, hti, hs, hl, if_true]
  exact hK _ _ h
end
end Go.Proofs.YtfpgjkaaadnmcaaDoor.P
