/- Steps of whole rows inside a fence; slices.Backward over bytes. -/
import Derived.Test.YtchokhakdnjfmaaDoorBas
import Derived.RangeFuncNested
import Derived.RangeFuncBound
import Derived.RangeFuncCalls
import Derived.RangeFuncLeaves
import Derived.RangeFuncBox
import Derived.Shelf.Abstract
import Derived.Shelf.RegionOpen
import Derived.OwnWalkIn
import Derived.TacticsInMore
import Derived.LoopNIn
import Derived.LoopIn
namespace Go.Proofs.YtchokhakdnjfmaaDoor.P
set_option linter.unusedVariables false
set_option linter.unusedSimpArgs false
open Go.RowKit Go.Shelf
attribute [local go_sem] Oper.semAt_some setCell_drewN
section
variable {F : Fence} {m : Nat} {P : Program} {ops : Array Oper} {rest : List Oper} {o : Oper} {a : Act} {w : World} {Q : Exit → Act → World → Prop} {k : IntKind} {n : Nat} {f : Nat → Int} {t ty : TypeId} {x y : Operand} {g : Nat} {d : TypeDesc}
/-- A whole row of numbers, read, inside a fence. -/
theorem stepIn_load (hr : Row w g k n f t) (hu : P.underlying ty = some d) (hi : (P.info? ty).map (·.size) = some n) (hd : (match d with | .struct _ | .array _ _ => true | _ => false) = true) (hgd : o.guard = none) (ho : o.op = .load ty x) (hx : a.eval x = .pointer (some ⟨g, 0, none⟩))
    (h : wpListIn F m P ops Q rest (a.put o.dst (.agg (FR k n f))) w) : wpListIn F m P ops Q (o :: rest) a w := by
  refine wpListIn_plain hgd fun K hK => ?_
  unfold Oper.wpIn
  refine ⟨by simp [Oper.about, ho], ?_⟩
  rw [Oper.semAt_plain F _ _ (by rw [ho]; intro c hc; cases hc), exec_load hr hu hi hd ho hx]
  exact hK _ _ h
/-- A whole row of numbers, stored, inside a fence. -/
theorem stepIn_storeG (f' : Nat → Int) (hr : Row w g k n f t) (hi : (P.info? ty).map (·.size) = some n) (hgd : o.guard = none) (hdst : o.dst = none) (ho : o.op = .store ty x y) (hx : a.eval x = .pointer (some ⟨g, 0, none⟩)) (hy : a.eval y = .agg (FR k n f'))
    (h : ∀ w', Stored w w' g → Row w' g k n f' t → wpListIn F m P ops Q rest a w') : wpListIn F m P ops Q (o :: rest) a w := by
  obtain ⟨ie, hie, hs⟩ : ∃ ie, P.info? ty = some ie ∧ ie.size = n := by
    cases he : P.info? ty with
    | none => rw [he] at hi; cases hi
    | some ie => rw [he] at hi; exact ⟨ie, rfl, Option.some.inj hi⟩
  have hrun := run_storeVar_row (P := P) ty ie hie g t (FR k n f) (FR k n f') w hr (by rw [FR_size, FR_size]) (by rw [FR_size, hs]) (FR_one k n f')
  refine wpListIn_plain hgd fun K hK => ?_
  unfold Oper.wpIn
  refine ⟨by simp [Oper.about, ho], ?_⟩
  rw [Oper.semAt_plain F _ _ (by rw [ho]; intro c hc; cases hc)]
  unfold execOp
  simp only [ho, hx, hy, Instr.storeAt, Instr.sureAddr, Sem.run_bind, Sem.run_pure, Result.andThen_ok, hrun]
  refine hK _ _ ?_
  rw [hdst]
  exact h _ ⟨fun k hk => setCells_other hk _ _ _, setCells_size g _ _ _, fun B W hB hb => bel_setCells hB _ _ _ hb⟩ hr.all
end
/-- A row abides whatever turns no cells. -/
theorem Row.kept {W W' : World} {row : Option Nat} {g : Nat} {k : IntKind} {n : Nat} {f : Nat → Int} {t : TypeId} (h : Row W g k n f t) (hg : W.grownBy W' row) (hrow : ∀ r, row = some r → ∃ o : Obj, W.heap[r]? = some o ∧ o.isCells = false) : Row W' g k n f t :=
  (grownBy_keeps_cells hg hrow h rfl).trans h
theorem KeepsFrom.of_below {B : Nat} {W W' : World} (h : Below W.heap.size W W') : KeepsFrom B W W' :=
  ⟨h.size, fun k o hB hk hc => (h.block k (Array.getElem?_eq_some_iff.1 hk).1).trans hk⟩
theorem KeepsFrom.of_stored {B g : Nat} {W W' : World} {k : IntKind} {n : Nat} {f : Nat → Int} {t : TypeId} (hs : Stored W W' g) (hr : Row W g k n f t) : KeepsFrom B W W' :=
  ⟨Nat.le_of_eq hs.size.symm, fun j o _ hj hc => (hs.other j (by rintro rfl; rw [show W.heap[j]? = _ from hr] at hj; cases hj; cases hc)).trans hj⟩
/-- An index and a byte. -/
abbrev IB := Nat × {x : Int // 0 ≤ x ∧ x < 256}
def encIB (x : IB) : Array Value := #[.int .i64 (x.1 : Int), .int .u8 x.2.1]
/-- What has come when k rounds are over, from the last one on. -/
def bkU (z : Nat → {x : Int // 0 ≤ x ∧ x < 256}) (len : Nat) : Nat → List IB
  | 0 => []
  | k + 1 => bkU z len k ++ [(len - 1 - k, z (len - 1 - k))]
theorem bkU_length (z : Nat → {x : Int // 0 ≤ x ∧ x < 256}) (len : Nat) : ∀ k, (bkU z len k).length = k
  | 0 => rfl
  | k + 1 => by simp [bkU, bkU_length z len k]
/-- A slice of bytes, read at its address. -/
def BytesAt (w : World) (a : Option Addr) (len : Nat) (z : Nat → Int) : Prop := (a = none ∧ len = 0) ∨ ∃ x, a = some x ∧ ∀ j, j < len → w.cell? (x.add j) = some (.int .u8 (z j))
theorem add_block (x : Addr) (j : Nat) : (x.add j).block = x.block := by unfold Addr.add; split <;> rfl
theorem BytesAt.below {w w' : World} {B : Nat} {a : Option Addr} {len : Nat} {z : Nat → Int} (h : BytesAt w a len z) (hb : Below B w w') (hB : ∀ x, a = some x → 0 < len → x.block < B) : BytesAt w' a len z := by
  rcases h with h | ⟨x, rfl, h⟩
  · exact .inl h
  · exact .inr ⟨x, rfl, fun j hj => (hb.cell (p := x.add j) (by rw [add_block]; exact hB x rfl (by omega))).trans (h j hj)⟩
theorem BytesAt.lt {w : World} {x : Addr} {len : Nat} {z : Nat → Int} (h : BytesAt w (some x) len z) (hl : 0 < len) : x.block < w.heap.size := by
  rcases h with ⟨h, _⟩ | ⟨y, hy, h⟩
  · cases h
  · cases hy
    have := block_lt_of_cell (h 0 hl)
    rwa [add_block] at this
/-- What a round keeps: what lies below n₀, and the box. -/
def KpB (n₀ Bs : Nat) (A B : World) : Prop := Below n₀ A B ∧ B.heap[Bs]? = A.heap[Bs]?
theorem KpB.refl (n₀ Bs : Nat) (A : World) : KpB n₀ Bs A A := ⟨Below.refl _ _, rfl⟩
theorem KpB.trans {n₀ Bs : Nat} {A B C : World} (h : KpB n₀ Bs A B) (k : KpB n₀ Bs B C) : KpB n₀ Bs A C := ⟨h.1.trans k.1, k.2.trans h.2⟩
theorem KpB.cell {n₀ Bs : Nat} {A B : World} (h : KpB n₀ Bs A B) : B.cell? ⟨Bs, 0, none⟩ = A.cell? ⟨Bs, 0, none⟩ := World.cell?_of_block h.2
theorem KpB.b {n₀ Bs : Nat} {w : World} (hn : n₀ ≤ w.heap.size) (hB : Bs < w.heap.size) : ∀ (W : World) (l : Nat) (o o' : Obj), w.heap.size ≤ l → W.heap[l]? = some o → o.isCells = false → o.isWalk = false → KpB n₀ Bs W (W.putObj l o') :=
  fun W l o o' hl ho hc hw => ⟨belowK_b hn W l o o' hl ho hc hw, World.putObj_heap_other (by omega)⟩
set_option maxRecDepth 100000 in
set_option maxHeartbeats 2000000 in
theorem back1_in (F : Fence) (n : Nat) (h7 : F.fn 23) (hro : F.round = none) (hn : 1 ≤ n) (l Bs n₀ len cap : Nat) (x : Addr) (z : Nat → {x : Int // 0 ≤ x ∧ x < 256}) (hreach : len ≤ 140737488351232) (hb : x.block < n₀) (J Jx : List IB → World → Prop)
    (hY : ∀ pre x W, J pre W → pre.length < len → YieldAt F (n - 1) Tryd.prog l (encIB x) W fun e W' =>
      (e = .returned (.bool true) ∧ J (pre ++ [x]) W' ∧ KpB n₀ Bs W W') ∨ (e = .returned (.bool false) ∧ Jx (pre ++ [x]) W'))
    (W : World) (hBs : W.cell? ⟨Bs, 0, none⟩ = some (.slice (some x) len cap)) (hc : ∀ j, j < len → W.cell? (x.add j) = some (.int .u8 (z j).1)) (h0 : J [] W) :
    CallsIn F n Tryd.prog 23 #[.func (.yield l) #[] #[], .pointer (some ⟨Bs, 0, none⟩)] W fun e W' => (∃ v, e = .returned v) ∧
      ((∃ ys, ys = bkU z len len ∧ J ys W') ∨ (∃ pre, True ∧ Jx pre W')) := by
  refine callsIn_of_wp Tryd.func23 rfl h7 ?_ hro
  simp only [Tryd.ntmps23, List.size_toArray, List.length_cons, List.length_nil, Nat.reduceAdd, Nat.reduceSub, Array.replicate_succ, Array.replicate_zero, List.push_toArray, List.append_toArray, List.nil_append, List.cons_append]
  gi_wp2
  gi_loopw [3] (fun i wr => ∃ k : Nat, k ≤ len ∧ i = .int .i64 (((len - k : Nat) : Int) - 1) ∧ J (bkU z len k) wr ∧ KpB n₀ Bs W wr)
    (fun i _ => ((intOf i) + 1).toNat)
  case atStart => exact ⟨0, Nat.zero_le _, by simp, h0, KpB.refl _ _ _⟩
  case round =>
    obtain ⟨k, hk, rfl, hJs, hnx⟩ := hrel
    have hbs := hnx.cell.trans hBs
    by_cases hlt : k < len
    · obtain ⟨j, hj⟩ : ∃ j, len - k = j + 1 := ⟨len - k - 1, by omega⟩
      rw [hj]
      have e1 : ((j + 1 : Nat) : Int) - 1 = (j : Int) := by omega
      rw [e1]
      have hcx := (hnx.1.cell (p := x.add j) (by rw [add_block]; exact hb)).trans (hc j (by omega))
      obtain ⟨fn, tmps, assign, body, hy, hR⟩ := hY _ (j, z j) wr hJs (by rw [bkU_length]; exact hlt)
      dsimp only [encIB] at hy
      have hlt2 : ((j : Int) < (len : Int)) = True := eq_true (by omega)
      have hge : ((j : Int) ≥ 0) = True := eq_true (by omega)
      have e2 : ((j : Int) - 1) = (((len - (k + 1) : Nat) : Int) - 1) := by omega
      have E2 := Aside0.mk e2
      clear e2
      gi_wp2
      refine hR.mono ?_
      rintro e W3 (⟨rfl, hJ3, hk3⟩ | ⟨rfl, hJx3⟩)
      · gi_wp2
        go_roundw
        case rel => exact ⟨k + 1, by omega, by rw [E2.out], by show J (bkU z len k ++ [(len - 1 - k, z (len - 1 - k))]) W3; rw [show len - 1 - k = j by omega]; exact hJ3, hnx.trans hk3⟩
        case measure => simp [intOf] <;> omega
      · gi_wp2
        refine bodyPost_ret (results_none rfl _ _ _) rfl ?_
        exact ⟨⟨_, rfl⟩, .inr ⟨_, trivial, hJx3⟩⟩
    · obtain rfl : k = len := by omega
      rw [Nat.sub_self]
      gi_wp2
      go_end0
      exact ⟨⟨_, rfl⟩, .inl ⟨_, rfl, hJs⟩⟩
set_option maxHeartbeats 1000000 in
theorem back1_nil_in (F : Fence) (n : Nat) (h7 : F.fn 23) (hro : F.round = none) (l Bs cap : Nat) (a : Option Addr) (J : List IB → World → Prop) (W : World) (hBs : W.cell? ⟨Bs, 0, none⟩ = some (.slice a 0 cap)) (h0 : J [] W) :
    CallsIn F n Tryd.prog 23 #[.func (.yield l) #[] #[], .pointer (some ⟨Bs, 0, none⟩)] W fun e W' => (∃ v, e = .returned v) ∧ J [] W' := by
  refine callsIn_of_wp Tryd.func23 rfl h7 ?_ hro
  simp only [Tryd.ntmps23, List.size_toArray, List.length_cons, List.length_nil, Nat.reduceAdd, Nat.reduceSub, Array.replicate_succ, Array.replicate_zero, List.push_toArray, List.append_toArray, List.nil_append, List.cons_append]
  gi_wp2
  gi_loopw [3] (fun i wr => i = .int .i64 (-1) ∧ J [] wr) (fun _ _ => 0)
  case atStart => exact ⟨rfl, h0⟩
  case round =>
    obtain ⟨rfl, hJs⟩ := hrel
    gi_wp2
    go_end0
    exact ⟨⟨_, rfl⟩, hJs⟩
set_option maxHeartbeats 1000000 in
/-- slices.Backward(b): the slice is boxed, the function captures the box. -/
theorem back_in (F : Fence) (n : Nat) (h5 : F.fn 19) (hro : F.round = none) (a : Option Addr) (len cap : Nat) (w : World) :
    CallsIn F n Tryd.prog 19 #[.slice a len cap] w fun e w' => e = .returned (.func (.func 23) #[] #[.pointer (some ⟨w.heap.size, 0, none⟩)]) ∧ w' = w.alloc (.cells #[.slice a len cap] 22) := by
  refine callsIn_of_wp Tryd.func19 rfl h5 ?_ hro
  simp only [Tryd.ntmps19, List.size_toArray, List.length_cons, List.length_nil, Nat.reduceAdd, Nat.reduceSub, Array.replicate_succ, Array.replicate_zero, List.push_toArray, List.append_toArray, List.nil_append, List.cons_append]
  gi_wp2
  go_ret
  exact ⟨rfl, rfl⟩
/-- slices.Backward's iterator. -/
theorem back_stops (F : Fence) (n : Nat) (h7 : F.fn 23) (hro : F.round = none) (hn : 1 ≤ n) (Bs n₀ len cap : Nat) (a : Option Addr) (z : Nat → {x : Int // 0 ≤ x ∧ x < 256}) (hreach : len ≤ 140737488351232) (w : World) (hBs : Bs < w.heap.size) (hn₀ : n₀ ≤ w.heap.size)
    (hc : w.cell? ⟨Bs, 0, none⟩ = some (.slice a len cap)) (hI : BytesAt w a len (fun j => (z j).1)) (hlo : ∀ x, a = some x → 0 < len → x.block < n₀) :
    SeqStopsK F n Tryd.prog 23 #[.pointer (some ⟨Bs, 0, none⟩)] encIB (KpB n₀ Bs) (fun ys => ys = bkU z len len) (fun _ => True) len w := fun l J Jx W hW _ _ hY h0 => by
  have hc' := (hW.cell (p := ⟨Bs, 0, none⟩) hBs).trans hc
  by_cases h : 0 < len
  · rcases hI with ⟨_, h9⟩ | ⟨x, rfl, hcs⟩
    · omega
    · exact back1_in F n h7 hro hn l Bs n₀ len cap x z hreach (hlo x rfl h) J Jx hY W hc' (fun j hj => (hW.cell (p := x.add j) (by rw [add_block]; have := hlo x rfl h; omega)).trans (hcs j hj)) h0
  · obtain rfl : len = 0 := by omega
    exact (back1_nil_in F n h7 hro l Bs cap a J W hc' h0).mono fun e W' ⟨he, hj⟩ => ⟨he, .inl ⟨_, rfl, hj⟩⟩
end Go.Proofs.YtchokhakdnjfmaaDoor.P
