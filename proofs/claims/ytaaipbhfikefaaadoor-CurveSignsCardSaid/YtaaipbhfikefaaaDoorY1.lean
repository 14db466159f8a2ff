/- Merged of the texts: WWords, WLast, WQPut, WApart, WArr, WZeros, WFoot, WKept, WShare, WN, WNEv, WMore, WTab, WRepsOne, Bas, WInv, Iv (trim.py). -/
import Derived.Below
import Derived.Deep.Draws
import Derived.Deep.AppendLies
import Derived.Maps.AppendAt
import Derived.OwnWalk
import Derived.Laws.BytesArg
import Derived.Laws.MakeOwn
import Derived.Laws.OwnMore
import Derived.Deep.OwnRows
import Derived.Tactics
import Derived.Lib.ConvBytes
import Derived.Laws.Slices
import Derived.WalkKit
import Derived.KernelRfl
import Derived.RowKit3
import Derived.Deep.LoopGhost
import Derived.Deep.QuietTactic
import Derived.BigQuiet
import Derived.WideLaws
import Derived.Deep.DeepCutAuto
import Derived.Deep.CutBlock
import Derived.Deep.RegionHeld3
import Derived.Laws.Rows
import Derived.Lib.AppendStr
import Derived.ArgAppend
import Derived.Laws.IdiomCopy
import Derived.RowKit
import Derived.OrdersHeld
import Derived.Laws.BitsLemmas
import Derived.Laws.BitsAllLaws
import Derived.Laws.NewBlocks
import Derived.ChangeKeysEq
import Derived.Laws.StructEq
import Derived.Deep.RegionWith
import Derived.WideKeyArr2
import Derived.Lib.Mul64
import Derived.Laws.Externs
import Derived.ChangeSlices
import Derived.Test.YtaaipbhfikefaaaDoorProg
namespace Foot
end Foot
namespace Go.Proofs.YtaaipbhfikefaaaDoor.P
end Go.Proofs.YtaaipbhfikefaaaDoor.P
namespace Go.Proofs.YtaaipbhfikefaaaDoor.P.Fd
end Go.Proofs.YtaaipbhfikefaaaDoor.P.Fd
namespace Go.Proofs.YtaaipbhfikefaaaDoorW.PrintLast
end Go.Proofs.YtaaipbhfikefaaaDoorW.PrintLast
namespace Go.Proofs.YtaaipbhfikefaaaDoorW.PrintMore
end Go.Proofs.YtaaipbhfikefaaaDoorW.PrintMore
namespace Go.Proofs.YtaaipbhfikefaaaDoorW.PrintWords
end Go.Proofs.YtaaipbhfikefaaaDoorW.PrintWords
namespace Kd
end Kd
section
set_option linter.unusedVariables false
set_option linter.unusedSimpArgs false
namespace Go.Proofs.YtaaipbhfikefaaaDoorW.PrintWords
open Go.RowKit
/-- A fact that the walk's simp doesn't look into. -/
structure Aside0 (p : Prop) : Prop where mk :: (out : p)
/-- The world is the old one, some orders having been drawn. -/
structure Drawn0 (w w' : World) : Prop where mk :: (out : ∃ n, w' = w.drewN n)
theorem Drawn0.refl (w : World) : Drawn0 w w := ⟨⟨0, rfl⟩⟩
theorem Drawn0.step {w w' : World} (h : Drawn0 w w') (n : Nat) : Drawn0 w (w'.drewN n) := by
  obtain ⟨m, rfl⟩ := h
  exact ⟨⟨m + n, World.drewN_drewN ..⟩⟩
theorem Drawn0.grown {w w' : World} (h : Drawn0 w w') : Grown w w' := by
  obtain ⟨n, rfl⟩ := h
  induction n with
  | zero => exact Grown.refl _
  | succ n ih => rw [← World.drew_drewN]; exact Grown.drew ih
theorem Drawn0.below {w w' : World} (h : Drawn0 w w') : Below w.heap.size w w' := by
  obtain ⟨n, rfl⟩ := h
  induction n with
  | zero => exact Below.refl _ _
  | succ n ih => rw [← World.drew_drewN]; exact ih.drew
def nums (k : IntKind) (xs : List Int) : List Value := xs.map fun x => .int k x
theorem below_alloc {w W : World} (h : Below w.heap.size w W) (o : Obj) : Below w.heap.size w (W.alloc o) := h.alloc h.size o
theorem below_drew {B : Nat} {w W : World} (h : Below B w W) : Below B w W.drew := ⟨h.os, h.tape, h.output, h.size, h.block⟩
theorem grown_of_below {w w1 : World} (h : Below w.heap.size w w1) (row : Option Nat) : w.grownBy w1 row := ⟨h.os, h.tape, h.output, h.size, fun i hi _ => h.block i hi⟩
theorem pw_cell_below {w w1 : World} (h : Below w.heap.size w w1) {a : Addr} {v : Value} (hc : w.cell? a = some v) : w1.cell? a = some v := (h.cell (World.block_lt_of_cell? w a hc)).trans hc
def ReadsInt (w : World) (k : IntKind) (A : Option Addr) (n : Nat) (xs : List Int) : Prop :=
  xs.length = n ∧ n ≤ 9223372036854775807 ∧ (0 < n → ∃ ad, A = some ad ∧ ∀ j, j < n → w.cell? (ad.add j) = some (.int k (xs.getD j 0)))
theorem ReadsInt.below {w w1 : World} {k : IntKind} {A : Option Addr} {n : Nat} {xs : List Int} (h : ReadsInt w k A n xs) (hb : Below w.heap.size w w1) : ReadsInt w1 k A n xs :=
  ⟨h.1, h.2.1, fun hn => by
    obtain ⟨ad, e, hc⟩ := h.2.2 hn
    exact ⟨ad, e, fun j hj => pw_cell_below hb (hc j hj)⟩⟩
theorem own_nil (W : World) (base : Nat) (e : TypeId) (size : Nat) : W.ownsRow base e size (.slice none 0 0) 0 [] := ⟨by simp, .inl ⟨rfl, rfl⟩⟩
theorem own_base {w : World} {base : Nat} {e : TypeId} {size n : Nat} {v : Value} {xs : List Value} (h : w.ownsRow base e size v n xs) (k : Nat) (hk : v.ownBlock = some k) : base ≤ k := by
  rcases h.2 with ⟨rfl, _⟩ | ⟨g, cap, cur, rfl, hb, _⟩
  · simp [Value.ownBlock] at hk
  · have : g = k := by simpa [Value.ownBlock] using hk
    omega
theorem own_lt {w : World} {base : Nat} {e : TypeId} {size n : Nat} {v : Value} {xs : List Value} (h : w.ownsRow base e size v n xs) (k : Nat) (hk : v.ownBlock = some k) : k < w.heap.size := by
  rcases h.2 with ⟨rfl, _⟩ | ⟨g, cap, cur, rfl, hb, hh, _⟩
  · simp [Value.ownBlock] at hk
  · have : g = k := by simpa [Value.ownBlock] using hk
    subst this
    exact (Array.getElem?_eq_some_iff.1 hh).1
theorem pw_own_below {w w1 : World} {base : Nat} {e : TypeId} {size n : Nat} {v : Value} {xs : List Value} (h : w.ownsRow base e size v n xs) (hb : Below w.heap.size w w1) : w1.ownsRow base e size v n xs :=
  h.kept (grown_of_below hb none) (by cases v.ownBlock <;> simp)
/-- What is written is another row: this one lives on. -/
theorem own_other {w w1 : World} {base : Nat} {e : TypeId} {size n : Nat} {v : Value} {xs : List Value} (h : w.ownsRow base e size v n xs) {row : Option Nat} (hg : w.grownBy w1 row) (hne : v.ownBlock = none ∨ v.ownBlock ≠ row) : w1.ownsRow base e size v n xs := h.kept hg hne
theorem own_string {P : Program} {w : World} {base n : Nat} {e' src dst e : TypeId} {v : Value} {xs : List Int} (hs : P.underlying src = some (.slice e)) (he : P.underlying e = some (.int .u8)) (hd : P.underlying dst = some .string)
    (h : w.ownsRow base e' 1 v n (nums .u8 xs)) : (convert src dst v).run P w = .ok (.string (strOfNums xs)) w := by
  have hl : xs.length = n := by have := h.1; simp [nums] at this; exact this
  rcases h.2 with ⟨rfl, rfl⟩ | ⟨g, cap, cur, rfl, _⟩
  · obtain rfl : xs = [] := List.eq_nil_of_length_eq_zero hl
    exact run_convert_bytes_nil w src e hs he 0 0 dst hd
  · refine run_convert_bytes_arg w src e hs he g 0 n cap xs hl (fun i hi => ?_) dst hd
    have hc := h.cells (g := g) rfl i (.int .u8 (xs.getD i 0)) (by simp [nums, List.getElem?_eq_getElem (show i < xs.length by omega), List.getD_eq_getElem?_getD])
    have ha : (⟨g, 0, none⟩ : Addr).add i = ⟨g, 0 + i, none⟩ := by unfold Addr.add; split <;> simp_all
    rwa [ha] at hc
/-- 'xs[:k]' and 'xs[k:]' of a slice that is read; the address of the second as_ the walk has it. -/
theorem ReadsInt.take_ {w : World} {k : IntKind} {A : Option Addr} {n : Nat} {xs : List Int} (h : ReadsInt w k A n xs) (i : Nat) (hi : i ≤ n) : ReadsInt w k A i (xs.take i) := by
  refine ⟨by rw [List.length_take, h.1]; omega, by have := h.2.1; omega, fun hp => ?_⟩
  obtain ⟨ad, e, hc⟩ := h.2.2 (by omega)
  refine ⟨ad, e, fun j hj => ?_⟩
  rw [hc j (by omega)]
  simp [List.getD_eq_getElem?_getD, hj]
/-- Where the first answers, the second answers the same. -/
def LeO {α : Type} (a b : Option α) : Prop := ∀ r, a = some r → b = some r
theorem LeO.refl {α : Type} (a : Option α) : LeO a a := fun _ h => h
theorem LeO.none {α : Type} (b : Option α) : LeO Option.none b := fun _ h => by cases h
theorem LeO.trans {α : Type} {a b c : Option α} (h : LeO a b) (k : LeO b c) : LeO a c := fun r hr => k r (h r hr)
theorem LeO.bind {α β : Type} {a a' : Option α} {f f' : α → Option β} (h : LeO a a') (k : ∀ x, LeO (f x) (f' x)) : LeO (a.bind f) (a'.bind f') := by
  intro r hr
  obtain ⟨x, hx, hf⟩ := Option.bind_eq_some_iff.1 hr
  exact Option.bind_eq_some_iff.2 ⟨x, h x hx, k x r hf⟩
theorem LeO.map {α β : Type} {a a' : Option α} (f : α → β) (h : LeO a a') : LeO (a.map f) (a'.map f) := by
  intro r hr
  obtain ⟨x, hx, hf⟩ := Option.map_eq_some_iff.1 hr
  exact Option.map_eq_some_iff.2 ⟨x, h x hx, hf⟩
theorem more_rounds {α : Type} {g : Nat → Option α} (h : ∀ k, LeO (g k) (g (k + 1))) (k : Nat) : ∀ j, LeO (g k) (g (k + j))
  | 0 => LeO.refl _
  | j + 1 => (more_rounds h k j).trans (h (k + j))
theorem at_rounds {α : Type} {g : Nat → Option α} (h : ∀ k, LeO (g k) (g (k + 1))) {k k' : Nat} (hk : k ≤ k') {r : α} (hr : g k = some r) : g k' = some r := by
  have := more_rounds h k (k' - k) r hr
  rwa [Nat.add_sub_cancel' hk] at this
def Reps {α : Type} (R : α → List Value → Prop) (size : Nat) (ps : List α) (cs : List Value) : Prop :=
  cs.length = ps.length * size ∧ ∀ j p, ps[j]? = some p → R p ((cs.drop (j * size)).take size)
theorem Reps.none {α : Type} (R : α → List Value → Prop) (size : Nat) : Reps R size [] [] := ⟨by simp, fun j p h => by simp at h⟩
theorem Reps.snoc {α : Type} {R : α → List Value → Prop} {size : Nat} {ps : List α} {cs c : List Value} {p : α} (h : Reps R size ps cs) (hp : R p c) (hc : c.length = size) : Reps R size (ps ++ [p]) (cs ++ c) := by
  refine ⟨by rw [List.length_append, h.1, hc, List.length_append, List.length_singleton, Nat.add_mul, Nat.one_mul], fun j q hq => ?_⟩
  rcases Nat.lt_or_ge j ps.length with hj | hj
  · rw [List.getElem?_append_left hj] at hq
    have h1 : j * size + size ≤ cs.length := by rw [h.1, ← Nat.succ_mul]; exact Nat.mul_le_mul_right _ hj
    have h2 := h.2 j q hq
    rw [List.drop_append_of_le_length (by omega), List.take_append_of_le_length (by rw [List.length_drop]; omega)]
    exact h2
  · have hj' : j = ps.length := by
      have := (List.getElem?_eq_some_iff.1 hq).1
      rw [List.length_append, List.length_singleton] at this
      omega
    subst hj'
    have hq' : p = q := by simpa using hq
    subst hq'
    rw [← h.1, List.drop_left, ← hc, List.take_length]
    exact hp
theorem Reps.imp_ {α : Type} {R R' : α → List Value → Prop} {size : Nat} {ps : List α} {cs : List Value} (h : Reps R size ps cs) (hR : ∀ p c, R p c → R' p c) : Reps R' size ps cs := ⟨h.1, fun j p hj => hR _ _ (h.2 j p hj)⟩
def ReadsRow {α : Type} (R : α → List Value → Prop) (size : Nat) (w : World) (A : Option Addr) (n : Nat) (ps : List α) : Prop :=
  ps.length = n ∧ n ≤ 9223372036854775807 ∧ (0 < n → ∃ ad, A = some ad ∧ ∀ j p, ps[j]? = some p → ∃ c, c.length = size ∧ R p c ∧ ∀ i u, c[i]? = some u → w.cell? (ad.add (j * size + i)) = some u)
theorem ReadsRow.imp_ {α : Type} {R R' : α → List Value → Prop} {size : Nat} {w w1 : World} {A : Option Addr} {n : Nat} {ps : List α} (h : ReadsRow R size w A n ps) (hb : Below w.heap.size w w1) (hR : ∀ p c, R p c → R' p c) : ReadsRow R' size w1 A n ps :=
  ⟨h.1, h.2.1, fun hn => by
    obtain ⟨ad, e, hc⟩ := h.2.2 hn
    refine ⟨ad, e, fun j p hj => ?_⟩
    obtain ⟨c, hs, hr, hcell⟩ := hc j p hj
    exact ⟨c, hs, hR _ _ hr, fun i u hu => pw_cell_below hb (hcell i u hu)⟩⟩
theorem own_reads_row {α : Type} {R : α → List Value → Prop} {w : World} {base n size : Nat} {e : TypeId} {v : Value} {ps : List α} {cs : List Value} (h : w.ownsRow base e size v n cs) (hR : Reps R size ps cs) (hn : ps.length = n) :
    ∃ A c, v = .slice A n c ∧ ReadsRow R size w A n ps := by
  rcases Nat.eq_zero_or_pos n with h0 | h0
  · rcases h.2 with ⟨rfl, rfl⟩ | ⟨g, cap, cur, rfl, _⟩
    · exact ⟨none, 0, rfl, hn, by omega, fun hp => absurd hp (by omega)⟩
    · exact ⟨_, cap, rfl, hn, by omega, fun hp => absurd hp (by omega)⟩
  · obtain ⟨g, cap, rfl, _, _⟩ := h.form h0
    have hm : n ≤ 9223372036854775807 := by
      rcases h.2 with ⟨_, h1⟩ | ⟨g', cap', cur, he, _, _, h1, h2, _⟩
      · omega
      · simp only [maxLen] at h2
        omega
    refine ⟨_, cap, rfl, hn, hm, fun _ => ⟨_, rfl, fun j p hj => ⟨(cs.drop (j * size)).take size, ?_, hR.2 j p hj, fun i u hu => ?_⟩⟩⟩
    · have hjl := (List.getElem?_eq_some_iff.1 hj).1
      have h1 : j * size + size ≤ cs.length := by rw [hR.1, ← Nat.succ_mul]; exact Nat.mul_le_mul_right _ hjl
      rw [List.length_take, List.length_drop]
      omega
    · refine h.cells (g := g) rfl _ u ?_
      rw [List.getElem?_take] at hu
      split at hu
      · rw [List.getElem?_drop] at hu
        exact hu
      · cases hu
section
variable {P : Program} {ops : Array Oper} {rest : List Oper} {o : Oper} {a : Act} {Q : Exit → Act → World → Prop}
/-- append(v, x), x of several cells; behind 'at_builtin'; the goal's world is 'W.alloc' of the variadic's box. -/
theorem print_append_cells {w0 W : World} (base : Nat) (hgd : o.guard = none) (s x : Operand) (t e : TypeId) (z : Value) (size bytes : Nat)
    (ho : o.op = .call { callee := .builtin .append, args := #[s, x], argTypes := #[t, t] })
    (ht : P.underlying t = some (.slice e)) (hinfo : (P.info? e).map (fun i => (i.zero, i.size, i.bytes)) = some (some z, size, bytes)) (hz : z.cells.size = size) (hs0 : 0 < size) (hb0 : 0 < bytes)
    (v : Value) (n : Nat) (xs ys : List Value) (hs : a.eval s = v) (hx : a.eval x = .slice (some ⟨W.heap.size, 0, none⟩) 1 1) (hys : ys.length = size) (h1 : ∀ u ∈ ys, u.oneCell' = true)
    (HO : W.ownsRow base e size v n xs) (HB : Below base w0 W) (hbase : base ≤ W.heap.size) (hl : (n + 1) * bytes ≤ 140737488355328)
    (h : ∀ v1 w1, w1.ownsRow base e size v1 (n + 1) (xs ++ ys) → Below base w0 w1 → W.grownBy w1 v.ownBlock → (v1.ownBlock = v.ownBlock ∨ ∃ b, v1.ownBlock = some b ∧ W.heap.size ≤ b) → wpList P ops Q rest (a.put o.dst v1) w1) :
    wpList P ops Q (o :: rest) a (W.alloc (.cells ys.toArray e)) := by
  obtain ⟨i0, hi, hzz⟩ := Option.map_eq_some_iff.1 hinfo
  simp only [Prod.mk.injEq] at hzz
  obtain ⟨hz0, hz1, hz2⟩ := hzz
  have hlen : n + 1 ≤ 140737488355328 := Nat.le_trans (Nat.le_mul_of_pos_right _ hb0) hl
  refine wpList_append_own_at (W.alloc (.cells ys.toArray e)) hgd s x t ho base e i0 z size bytes ht hi hz0 hz1 hz2 hz hs0 v n xs hs (HO.alloc _) ⟨W.heap.size, 0, none⟩ 1 1 ys hx (by rw [hys]; simp)
    (by simpa using World.news_of_block (cs := ys.toArray) (t := e) (fr := (0, 0)) (heap_alloc_new W (.cells ys.toArray e))) h1 (by simp only [maxLen]; omega) hl (by simp; omega) ?_
  intro v1 w1 hown hg _ hat
  refine h v1 w1 hown ((HB.alloc hbase _).grown hg (by simp; omega) (own_base HO)) (World.grownBy.trans (World.grownBy_alloc W _ _) hg) ?_
  rcases hat with hat | hat
  · exact .inl hat
  · exact .inr ⟨_, hat, by simp⟩
end
theorem blk_set {w : World} {g : Nat} {t : TypeId} {cs : Array Value} (h : w.heap[g]? = some (.cells cs t (0, 0))) (i : Nat) (u : Value) : (w.setCell ⟨g, i, none⟩ u).heap[g]? = some (.cells (cs.setIfInBounds i u) t (0, 0)) := by
  simp [World.setCell, Array.getElem?_modify, h]
theorem blk_lt {w : World} {g : Nat} {o : Obj} (h : w.heap[g]? = some o) : g < w.heap.size := (Array.getElem?_eq_some_iff.1 h).1
def KeepBut (w w' : World) (g : Nat) (row : Option Nat) : Prop := w.heap.size ≤ w'.heap.size ∧ ∀ i, i < w.heap.size → i ≠ g → some i ≠ row → w'.heap[i]? = w.heap[i]?
theorem KeepBut.refl (w : World) (g : Nat) (row : Option Nat) : KeepBut w w g row := ⟨Nat.le_refl _, fun _ _ _ _ => rfl⟩
theorem KeepBut.of_below {w w1 : World} (h : Below w.heap.size w w1) (g : Nat) (row : Option Nat) : KeepBut w w1 g row := ⟨h.size, fun i hi _ _ => h.block i hi⟩
theorem KeepBut.trans {w w1 w2 : World} {g : Nat} {row row1 : Option Nat} (h : KeepBut w w1 g row) (k : KeepBut w1 w2 g row1) (hr : row1 = row ∨ ∃ b, row1 = some b ∧ w.heap.size ≤ b) : KeepBut w w2 g row :=
  ⟨Nat.le_trans h.1 k.1, fun i hi hg hn => by
    refine (k.2 i (Nat.lt_of_lt_of_le hi h.1) hg ?_).trans (h.2 i hi hg hn)
    rcases hr with rfl | ⟨b, rfl, hb⟩
    · exact hn
    · intro e
      injection e with e
      omega⟩
/-- Another block, another row: they live on. -/
theorem KeepBut.blk {w w1 : World} {g g' : Nat} {row : Option Nat} {o : Obj} (h : KeepBut w w1 g row) (hb : w.heap[g']? = some o) (hg : g' ≠ g) (hr : some g' ≠ row) : w1.heap[g']? = some o := (h.2 g' (blk_lt hb) hg hr).trans hb
theorem KeepBut.own {w w1 : World} {g : Nat} {row : Option Nat} {base : Nat} {e : TypeId} {size n : Nat} {v : Value} {xs : List Value} (h : KeepBut w w1 g row) (ho : w.ownsRow base e size v n xs) (hg : v.ownBlock ≠ some g) (hr : v.ownBlock = none ∨ v.ownBlock ≠ row) : w1.ownsRow base e size v n xs := by
  obtain ⟨h1, h2⟩ := ho
  refine ⟨h1, ?_⟩
  rcases h2 with h2 | ⟨b, cap, cur, rfl, hb, hh, r⟩
  · exact .inl h2
  · refine .inr ⟨b, cap, cur, rfl, hb, h.blk hh ?_ ?_, r⟩
    · intro e
      exact hg (by rw [← e]; rfl)
    · rcases hr with hr | hr
      · simp [Value.ownBlock] at hr
      · exact hr
def Ev {α : Type} (g : Nat → Option α) (r : α) : Prop := ∃ K, ∀ k, K ≤ k → g k = some r
theorem Ev.of {α : Type} {g : Nat → Option α} {r : α} (hg : ∀ k, LeO (g k) (g (k + 1))) {k : Nat} (h : g k = some r) : Ev g r := ⟨k, fun _ hk => at_rounds hg hk h⟩
theorem Ev.bind {α β : Type} {g : Nat → Option α} {f : Nat → α → Option β} {a : α} {r : β} (h : Ev g a) (k : Ev (fun n => f n a) r) : Ev (fun n => (g n).bind (f n)) r := by
  obtain ⟨K, h⟩ := h
  obtain ⟨K', k⟩ := k
  refine ⟨max K K', fun n hn => ?_⟩
  have h1 := h n (by omega)
  have h2 := k n (by omega)
  simp only [h1, Option.bind_some]
  exact h2
/-- One round of a loop. -/
theorem Ev.step {α : Type} {g f : Nat → Option α} {r : α} (h : ∀ k, g (k + 1) = f k) (k : Ev f r) : Ev g r := by
  obtain ⟨K, k⟩ := k
  refine ⟨K + 1, fun n hn => ?_⟩
  obtain ⟨m, rfl⟩ : ∃ m, n = m + 1 := ⟨n - 1, by omega⟩
  rw [h]
  exact k m (by omega)
theorem Ev.congr {α : Type} {g f : Nat → Option α} {r : α} (h : ∀ k, g k = f k) (k : Ev f r) : Ev g r := by
  obtain ⟨K, k⟩ := k
  exact ⟨K, fun n hn => (h n).trans (k n hn)⟩
theorem own_weaken {w : World} {base base' : Nat} {e : TypeId} {size n : Nat} {v : Value} {xs : List Value} (h : w.ownsRow base e size v n xs) (hb : base' ≤ base) : w.ownsRow base' e size v n xs := by
  obtain ⟨h1, h2⟩ := h
  refine ⟨h1, ?_⟩
  rcases h2 with h2 | ⟨g, cap, cur, rfl, hg, r⟩
  · exact .inl h2
  · exact .inr ⟨g, cap, cur, rfl, Nat.le_trans hb hg, r⟩
section
variable {α : Type} {enc : α → Value} {d : α}
def encs (enc : α → Value) (xs : List α) : List Value := xs.map enc
theorem encs_length (xs : List α) : (encs enc xs).length = xs.length := by simp [encs]
def ReadsOf (enc : α → Value) (d : α) (w : World) (A : Option Addr) (n : Nat) (xs : List α) : Prop :=
  xs.length = n ∧ n ≤ 9223372036854775807 ∧ (0 < n → ∃ ad, A = some ad ∧ ∀ j, j < n → w.cell? (ad.add j) = some (enc (xs.getD j d)))
theorem ReadsOf.below {w w1 : World} {A : Option Addr} {n : Nat} {xs : List α} (h : ReadsOf enc d w A n xs) (hb : Below w.heap.size w w1) : ReadsOf enc d w1 A n xs :=
  ⟨h.1, h.2.1, fun hn => by
    obtain ⟨ad, e, hc⟩ := h.2.2 hn
    exact ⟨ad, e, fun j hj => pw_cell_below hb (hc j hj)⟩⟩
theorem ReadsOf.take_ {w : World} {A : Option Addr} {n : Nat} {xs : List α} (h : ReadsOf enc d w A n xs) (i : Nat) (hi : i ≤ n) : ReadsOf enc d w A i (xs.take i) := by
  refine ⟨by rw [List.length_take, h.1]; omega, by have := h.2.1; omega, fun hp => ?_⟩
  obtain ⟨ad, e, hc⟩ := h.2.2 (by omega)
  refine ⟨ad, e, fun j hj => ?_⟩
  rw [hc j (by omega)]
  simp [List.getD_eq_getElem?_getD, hj]
end
theorem own_le {w : World} {base n m c size : Nat} {e : TypeId} {A : Option Addr} {xs : List Value} (h : w.ownsRow base e size (.slice A m c) n xs) : m ≤ c := by
  rcases h.2 with ⟨he, _⟩ | ⟨g, cap, cur, he, _, _, hnc, _⟩
  · injection he with _ h2 h3
    omega
  · injection he with _ h2 h3
    omega
def OwnRow {α : Type} (R : α → List Value → Prop) (e : TypeId) (size : Nat) (w : World) (base : Nat) (v : Value) (ps : List α) : Prop :=
  ∃ inner, w.ownsRow base e size v ps.length inner ∧ Reps R size ps inner
section
variable {α : Type} {R R' : α → List Value → Prop} {e : TypeId} {size : Nat} {w w1 : World} {base : Nat} {v : Value} {ps : List α}
theorem OwnRow.none_ (R : α → List Value → Prop) (e : TypeId) (size : Nat) (w : World) (base : Nat) : OwnRow R e size w base (.slice none 0 0) [] := ⟨[], own_nil _ _ _ _, Reps.none _ _⟩
theorem OwnRow.imp_ (h : OwnRow R e size w base v ps) (hR : ∀ p c, R p c → R' p c) : OwnRow R' e size w base v ps := by
  obtain ⟨inner, ho, hr⟩ := h
  exact ⟨inner, ho, hr.imp_ hR⟩
theorem OwnRow.below (h : OwnRow R e size w base v ps) (hb : Below w.heap.size w w1) : OwnRow R e size w1 base v ps := by
  obtain ⟨inner, ho, hr⟩ := h
  exact ⟨inner, pw_own_below ho hb, hr⟩
theorem OwnRow.other (h : OwnRow R e size w base v ps) {row : Option Nat} (hg : w.grownBy w1 row) (hne : v.ownBlock = none ∨ v.ownBlock ≠ row) : OwnRow R e size w1 base v ps := by
  obtain ⟨inner, ho, hr⟩ := h
  exact ⟨inner, own_other ho hg hne, hr⟩
theorem OwnRow.reads (h : OwnRow R e size w base v ps) : ∃ A c, v = .slice A ps.length c ∧ ps.length ≤ c ∧ ReadsRow R size w A ps.length ps := by
  obtain ⟨inner, ho, hr⟩ := h
  obtain ⟨A, c, rfl, hrow⟩ := own_reads_row ho hr rfl
  exact ⟨A, c, rfl, own_le ho, hrow⟩
/-- A literal: the elements' cells one behind the other. -/
theorem OwnRow.lit (W : World) (base : Nat) {inner : List Value} (hr : Reps R size ps inner) (hb : base ≤ W.heap.size) (hm : ps.length ≤ 9223372036854775807) :
    OwnRow R e size (W.alloc (.cells inner.toArray e)) base (.slice (some ⟨W.heap.size, 0, none⟩) ps.length ps.length) ps := by
  have h := World.ownsRow_lit (base := base) (e := e) (size := size) W inner.toArray ps.length hb (by simpa [maxLen] using hm) (by simpa using hr.1)
  exact ⟨inner, by simpa using h, hr⟩
end
section
variable {P : Program} {ops : Array Oper} {rest : List Oper} {o : Oper} {a : Act} {Q : Exit → Act → World → Prop} {α : Type} {R : α → List Value → Prop}
/-- append(v, x): x's cells are cs. R is that of the world AHEAD; move it over hg ('OwnRow.imp_'). -/
theorem OwnRow.append {w0 W : World} (base : Nat) (hgd : o.guard = none) (s x : Operand) (t e : TypeId) (z : Value) (size bytes : Nat)
    (ho : o.op = .call { callee := .builtin .append, args := #[s, x], argTypes := #[t, t] })
    (ht : P.underlying t = some (.slice e)) (hinfo : (P.info? e).map (fun i => (i.zero, i.size, i.bytes)) = some (some z, size, bytes)) (hz : z.cells.size = size) (hs0 : 0 < size) (hb0 : 0 < bytes)
    (v : Value) (ps : List α) (p : α) (cs : List Value) (hs : a.eval s = v) (hx : a.eval x = .slice (some ⟨W.heap.size, 0, none⟩) 1 1) (hp : R p cs) (hcs : cs.length = size) (h1 : ∀ u ∈ cs, u.oneCell' = true)
    (HO : OwnRow R e size W base v ps) (HB : Below base w0 W) (hbase : base ≤ W.heap.size) (hl : (ps.length + 1) * bytes ≤ 140737488355328)
    (h : ∀ v1 w1, OwnRow R e size w1 base v1 (ps ++ [p]) → Below base w0 w1 → W.grownBy w1 v.ownBlock → (v1.ownBlock = v.ownBlock ∨ ∃ b, v1.ownBlock = some b ∧ W.heap.size ≤ b) → wpList P ops Q rest (a.put o.dst v1) w1) :
    wpList P ops Q (o :: rest) a (W.alloc (.cells cs.toArray e)) := by
  obtain ⟨inner, hown, hr⟩ := HO
  refine print_append_cells base hgd s x t e z size bytes ho ht hinfo hz hs0 hb0 v ps.length inner cs hs hx hcs h1 hown HB hbase hl ?_
  intro v1 w1 hown1 hb1 hg1 hat1
  exact h v1 w1 ⟨inner ++ cs, by rw [List.length_append, List.length_singleton]; exact hown1, hr.snoc hp hcs⟩ hb1 hg1 hat1
end
/-- What is read as_ a row has its cells one behind the other. -/
theorem ReadsRow.inner_ {α : Type} {R : α → List Value → Prop} {size : Nat} {w : World} {ad : Addr} {n : Nat} {ps : List α} (h : ReadsRow R size w (some ad) n ps) :
    ∃ inner, Reps R size ps inner ∧ ∀ j u, inner[j]? = some u → w.cell? (ad.add j) = some u := by
  have key : ∀ m, m ≤ ps.length → ∃ inner, Reps R size (ps.take m) inner ∧ ∀ j u, inner[j]? = some u → w.cell? (ad.add j) = some u := by
    intro m
    induction m with
    | zero => exact fun _ => ⟨[], Reps.none _ _, fun j u hu => by simp at hu⟩
    | succ m ih =>
      intro hm
      obtain ⟨inner, hr, hc⟩ := ih (by omega)
      obtain ⟨ad', he, hcell⟩ := h.2.2 (by have := h.1; omega)
      injection he with he
      subst he
      obtain ⟨c, hcl, hp, hcc⟩ := hcell m _ (List.getElem?_eq_getElem (show m < ps.length by omega))
      refine ⟨inner ++ c, ?_, fun j u hu => ?_⟩
      · rw [List.take_succ_eq_append_getElem (show m < ps.length by omega)]
        exact hr.snoc hp hcl
      · have hil : inner.length = m * size := by rw [hr.1, List.length_take, Nat.min_eq_left (by omega)]
        rcases Nat.lt_or_ge j inner.length with hj | hj
        · rw [List.getElem?_append_left hj] at hu
          exact hc j u hu
        · rw [List.getElem?_append_right hj] at hu
          have := hcc (j - inner.length) u hu
          rwa [hil, Nat.add_sub_cancel' (by omega)] at this
  obtain ⟨inner, hr, hc⟩ := key ps.length (Nat.le_refl _)
  rw [List.take_length] at hr
  exact ⟨inner, hr, hc⟩
/-- ok: which blocks the rows inside may be ('not the row that is being written'). -/
structure Kd (α : Type) where
  sz : Nat
  E : List Nat
  K : World → α → List Value → Prop
  M : World → Nat → (Nat → Prop) → α → List Value → Prop
  K_len : ∀ {w x cs}, K w x cs → cs.length = sz
  K_one : ∀ {w x cs}, K w x cs → ∀ u ∈ cs, u.oneCell' = true
  K_below : ∀ {w w1 : World} {x cs}, Below w.heap.size w w1 → K w x cs → K w1 x cs
  K_of_M : ∀ {w base ok x cs}, M w base ok x cs → K w x cs
  M_mono : ∀ {w base ok ok' x cs}, (∀ k, ok k → ok' k) → M w base ok x cs → M w base ok' x cs
  M_bound : ∀ {w : World} {base ok x cs}, M w base ok x cs → M w base (fun k => ok k ∧ base ≤ k ∧ k < w.heap.size ∧ ∃ q, q ∈ E ∧ ∃ cells, w.heap[k]? = some (.cells cells q (0, 0))) x cs
  M_move : ∀ {w w1 : World} {base ok x cs}, (∀ k, ok k → w1.heap[k]? = w.heap[k]?) → M w base ok x cs → M w1 base ok x cs
  M_lower : ∀ {w base base' ok x cs}, base' ≤ base → M w base ok x cs → M w base' ok x cs
theorem own_move {w w1 : World} {base : Nat} {e : TypeId} {size n : Nat} {v : Value} {xs : List Value} (h : w.ownsRow base e size v n xs) (hm : ∀ k, v.ownBlock = some k → w1.heap[k]? = w.heap[k]?) : w1.ownsRow base e size v n xs := by
  obtain ⟨h1, h2⟩ := h
  refine ⟨h1, ?_⟩
  rcases h2 with h2 | ⟨g, cap, cur, rfl, hg, hh, r⟩
  · exact .inl h2
  · exact .inr ⟨g, cap, cur, rfl, hg, (hm g (by simp [Value.ownBlock])).trans hh, r⟩
theorem own_typed {w : World} {base : Nat} {e : TypeId} {size n : Nat} {v : Value} {xs : List Value} (h : w.ownsRow base e size v n xs) (k : Nat) (hk : v.ownBlock = some k) : ∃ cells, w.heap[k]? = some (.cells cells e (0, 0)) := by
  rcases h.2 with ⟨rfl, _⟩ | ⟨g, cap, cur, rfl, hg, hh, r⟩
  · simp [Value.ownBlock] at hk
  · have : g = k := by simpa [Value.ownBlock] using hk
    subst this
    exact ⟨cur, hh⟩
namespace Kd
/-- A row of elements that is read. -/
def C {α : Type} (d : Kd α) (w : World) (A : Option Addr) (n : Nat) (xs : List α) : Prop := ReadsRow (d.K w) d.sz w A n xs
/-- A row of elements (type e) of the call's own; the elements' rows are not this one. -/
def R {α : Type} (d : Kd α) (e : Nat) (w : World) (base : Nat) (ok : Nat → Prop) (v : Value) (xs : List α) : Prop :=
  (∀ k, v.ownBlock = some k → ok k) ∧ OwnRow (d.M w base (fun k => ok k ∧ some k ≠ v.ownBlock)) e d.sz w base v xs
section
variable {α : Type} {d : Kd α} {e : Nat} {w w1 : World} {base : Nat} {ok ok' : Nat → Prop} {v : Value} {xs : List α}
theorem C_below {A : Option Addr} {n : Nat} (h : d.C w A n xs) (hb : Below w.heap.size w w1) : d.C w1 A n xs := ReadsRow.imp_ h hb (fun _ _ hp => d.K_below hb hp)
theorem R_nil (d : Kd α) (e : Nat) (w : World) (base : Nat) (ok : Nat → Prop) : d.R e w base ok (.slice none 0 0) [] := ⟨fun k hk => by simp [Value.ownBlock] at hk, OwnRow.none_ _ _ _ _ _⟩
theorem R_mono (h : d.R e w base ok v xs) (hok : ∀ k, ok k → ok' k) : d.R e w base ok' v xs := ⟨fun k hk => hok k (h.1 k hk), h.2.imp_ (fun _ _ hp => d.M_mono (fun k hk => ⟨hok k hk.1, hk.2⟩) hp)⟩
theorem R_bound (h : d.R e w base ok v xs) : d.R e w base (fun k => ok k ∧ base ≤ k ∧ k < w.heap.size ∧ ∃ q, q ∈ e :: d.E ∧ ∃ cells, w.heap[k]? = some (.cells cells q (0, 0))) v xs := by
  obtain ⟨h0, inner, ho, hr⟩ := h
  refine ⟨fun k hk => ?_, inner, ho, hr.imp_ (fun _ _ hp => d.M_mono (fun k hk => ?_) (d.M_bound hp))⟩
  · obtain ⟨cells, hc⟩ := own_typed ho k hk
    exact ⟨h0 k hk, own_base ho k hk, own_lt ho k hk, e, List.mem_cons_self, cells, hc⟩
  · obtain ⟨⟨h1, h2⟩, h3, h4, q, hq, hc⟩ := hk
    exact ⟨⟨h1, h3, h4, q, List.mem_cons_of_mem _ hq, hc⟩, h2⟩
theorem R_move (h : d.R e w base ok v xs) (hm : ∀ k, ok k → w1.heap[k]? = w.heap[k]?) : d.R e w1 base ok v xs := by
  obtain ⟨h0, inner, ho, hr⟩ := h
  exact ⟨h0, inner, own_move ho (fun k hk => hm k (h0 k hk)), hr.imp_ (fun _ _ hp => d.M_move (fun k hk => hm k hk.1) hp)⟩
theorem R_lower {base' : Nat} (h : d.R e w base ok v xs) (hb : base' ≤ base) : d.R e w base' ok v xs := by
  obtain ⟨h0, inner, ho, hr⟩ := h
  exact ⟨h0, inner, own_weaken ho hb, hr.imp_ (fun _ _ hp => d.M_lower hb hp)⟩
/-- Any mover: what is ok, and a block of w's, stays. -/
theorem R_step (h : d.R e w base ok v xs) (hm : ∀ k, ok k → k < w.heap.size → w1.heap[k]? = w.heap[k]?) : d.R e w1 base ok v xs :=
  R_mono (R_move (R_bound h) (fun k hk => hm k hk.1 hk.2.2.1)) (fun _ hk => hk.1)
theorem M_step {x : α} {cs : List Value} (h : d.M w base ok x cs) (hm : ∀ k, ok k → k < w.heap.size → w1.heap[k]? = w.heap[k]?) : d.M w1 base ok x cs :=
  d.M_mono (fun _ hk => hk.1) (d.M_move (fun k hk => hm k hk.1 hk.2.2.1) (d.M_bound h))
theorem R_below (h : d.R e w base ok v xs) (hb : Below w.heap.size w w1) : d.R e w1 base ok v xs := R_step h (fun k _ hk => hb.block k hk)
theorem M_below {x : α} {cs : List Value} (h : d.M w base ok x cs) (hb : Below w.heap.size w w1) : d.M w1 base ok x cs := M_step h (fun k _ hk => hb.block k hk)
/-- Another row (a block, or none) has been written. -/
theorem R_grown (h : d.R e w base ok v xs) {row : Option Nat} (hg : w.grownBy w1 row) (hok : ∀ k, ok k → some k ≠ row) : d.R e w1 base ok v xs := R_step h (fun k ho hk => hg.block k hk (hok k ho))
theorem R_reads (h : d.R e w base ok v xs) : ∃ A c, v = .slice A xs.length c ∧ xs.length ≤ c ∧ d.C w A xs.length xs := by
  obtain ⟨A, c, he, hl, hr⟩ := OwnRow.reads h.2
  exact ⟨A, c, he, hl, hr.imp_ (Below.refl _ _) (fun _ _ hp => d.K_of_M hp)⟩
theorem R_slice (h : d.R e w base ok v xs) : ∃ A c, v = .slice A xs.length c := by
  obtain ⟨A, c, he, _⟩ := R_reads h
  exact ⟨A, c, he⟩
end
def scalar {α : Type} (enc : α → Value) (h1 : ∀ x, (enc x).oneCell' = true) : Kd α where
  sz := 1
  E := []
  K := fun _ x cs => cs = [enc x]
  M := fun _ _ _ x cs => cs = [enc x]
  K_len := fun h => by rw [h]; rfl
  K_one := fun h u hu => by
    rw [h] at hu
    rw [List.mem_singleton.1 hu]
    exact h1 _
  K_below := fun _ h => h
  K_of_M := fun h => h
  M_mono := fun _ h => h
  M_bound := fun h => h
  M_move := fun _ h => h
  M_lower := fun _ h => h
def int (k : IntKind) : Kd Int := scalar (Value.int k) (fun _ => rfl)
def bool : Kd Bool := scalar Value.bool (fun _ => rfl)
def string : Kd ByteArray := scalar Value.string (fun _ => rfl)
def slice {α : Type} (e : Nat) (d : Kd α) : Kd (List α) where
  sz := 1
  E := e :: d.E
  K := fun w xs cs => ∃ A c, cs = [.slice A xs.length c] ∧ xs.length ≤ c ∧ d.C w A xs.length xs
  M := fun w base ok xs cs => ∃ v, cs = [v] ∧ d.R e w base ok v xs
  K_len := by
    rintro w x cs ⟨A, c, rfl, _⟩
    rfl
  K_one := by
    rintro w x cs ⟨A, c, rfl, _⟩ u hu
    rw [List.mem_singleton.1 hu]
    rfl
  K_below := by
    rintro w w1 x cs hb ⟨A, c, rfl, hl, hr⟩
    exact ⟨A, c, rfl, hl, C_below hr hb⟩
  K_of_M := by
    rintro w base ok x cs ⟨v, rfl, h⟩
    obtain ⟨A, c, rfl, hl, hr⟩ := R_reads h
    exact ⟨A, c, rfl, hl, hr⟩
  M_mono := by
    rintro w base ok ok' x cs hok ⟨v, rfl, h⟩
    exact ⟨v, rfl, R_mono h hok⟩
  M_bound := by
    rintro w base ok x cs ⟨v, rfl, h⟩
    exact ⟨v, rfl, R_bound h⟩
  M_move := by
    rintro w w1 base ok x cs hm ⟨v, rfl, h⟩
    exact ⟨v, rfl, R_move h hm⟩
  M_lower := by
    rintro w base base' ok x cs hb ⟨v, rfl, h⟩
    exact ⟨v, rfl, R_lower h hb⟩
theorem own_of_R {α : Type} {enc : α → Value} {h1 : ∀ x, (enc x).oneCell' = true} {e : Nat} {w : World} {base : Nat} {ok : Nat → Prop} {v : Value} {xs : List α} (h : (scalar enc h1).R e w base ok v xs) : w.ownsRow base e 1 v xs.length (encs enc xs) := by
  obtain ⟨_, inner, ho, hr⟩ := h
  have : inner = encs enc xs := by
    apply List.ext_getElem?
    intro j
    rcases Nat.lt_or_ge j xs.length with hj | hj
    · have h2 := hr.2 j _ (List.getElem?_eq_getElem hj)
      have hl : j < inner.length := by have := hr.1; simp [scalar] at this; omega
      have h3 : (inner.drop (j * 1)).take 1 = [enc xs[j]] := h2
      rw [Nat.mul_one, List.drop_eq_getElem_cons hl] at h3
      have h4 : inner[j] = enc xs[j] := by
        have h5 := congrArg List.head? h3
        rw [List.take_succ_cons] at h5
        exact Option.some.inj h5
      rw [List.getElem?_eq_getElem hl, h4]
      simp [encs, List.getElem?_eq_getElem hj]
    · have h3 : inner.length = xs.length := by have := hr.1; simp [scalar] at this; omega
      rw [List.getElem?_eq_none (by omega), List.getElem?_eq_none (by rw [encs_length]; omega)]
  rw [← this]
  exact ho
end Kd
namespace Kd
/-- F says the more, the more its argument says. -/
structure Mono {α β : Type} (F : Kd α → Kd β) : Prop where
  sz : ∀ d d' : Kd α, d.sz = d'.sz → (F d).sz = (F d').sz
  K : ∀ d d' : Kd α, d.sz = d'.sz → (∀ w x cs, d.K w x cs → d'.K w x cs) → ∀ w x cs, (F d).K w x cs → (F d').K w x cs
  M : ∀ d d' : Kd α, d.sz = d'.sz → (∀ w base ok x cs, d.M w base ok x cs → d'.M w base ok x cs) → ∀ w base ok x cs, (F d).M w base ok x cs → (F d').M w base ok x cs
end Kd
namespace Kd
section
variable {α β : Type} {d : Kd α} {d' : Kd β} {e e' : Nat} {w w1 W : World} {base b b' : Nat} {ok ok' okv oku : Nat → Prop} {v u : Value} {xs : List α} {ys : List β}
theorem R_drew (h : d.R e w base ok v xs) : d.R e w.drew base ok v xs := R_below h (below_drew (Below.refl _ _))
theorem R_reads' {A : Option Addr} {n c : Nat} (h : d.R e w base ok (.slice A n c) xs) : n = xs.length ∧ n ≤ c ∧ d.C w A xs.length xs := by
  obtain ⟨A', c', he, hl, hr⟩ := R_reads h
  injection he with h1 h2 h3
  subst h1
  exact ⟨h2, by omega, hr⟩
end
end Kd
/-- A row of one's own that may begin inside its block. -/
def QRow (w : World) (base : Nat) (e : TypeId) (size : Nat) (v : Value) (n : Nat) (xs : List Value) : Prop :=
  xs.length = n * size ∧
  ((n = 0 ∧ ∃ A, v = .slice A 0 0 ∧ ∀ a, A = some a → base ≤ a.block ∧ ∃ cur, w.heap[a.block]? = some (.cells cur e (0, 0))) ∨
   ∃ g off cap cur, v = .slice (some ⟨g, off * size, none⟩) n cap ∧ base ≤ g ∧ w.heap[g]? = some (.cells cur e (0, 0)) ∧ n ≤ cap ∧ off + cap ≤ maxLen ∧ cur.size = (off + cap) * size ∧ (cur.toList.drop (off * size)).take (n * size) = xs)
section
variable {w w1 : World} {base n size : Nat} {e : TypeId} {v : Value} {xs : List Value}
theorem add_at (g o j : Nat) : (⟨g, o, none⟩ : Addr).add j = ⟨g, o + j, none⟩ := by unfold Addr.add; split <;> simp_all
theorem setCells_row {g : Nat} {e : TypeId} : ∀ (vs : List Value) (o : Nat) (w : World) (cur : Array Value), w.heap[g]? = some (.cells cur e (0, 0)) → o + vs.length ≤ cur.size →
    ∃ cur', (w.setCells g o vs).heap[g]? = some (.cells cur' e (0, 0)) ∧ cur'.size = cur.size ∧ cur'.toList = cur.toList.take o ++ vs ++ cur.toList.drop (o + vs.length)
  | [], o, w, cur, h, _ => ⟨cur, h, rfl, by simp⟩
  | v :: r, o, w, cur, h, hl => by
    have h2 := blk_set h o v
    simp only [List.length_cons] at hl
    obtain ⟨cur', h3, h4, h5⟩ := setCells_row r (o + 1) (w.setCell ⟨g, o, none⟩ v) _ h2 (by simp; omega)
    refine ⟨cur', h3, by rw [h4]; simp, ?_⟩
    rw [h5, Array.toList_setIfInBounds]
    have ho : o < cur.toList.length := by rw [Array.length_toList]; omega
    rw [List.take_set, List.drop_set_of_lt (by omega)]
    simp only [List.length_cons]
    rw [show o + 1 + r.length = o + (r.length + 1) by omega]
    congr 1
    rw [List.take_succ_eq_append_getElem ho, List.set_append_right _ _ (by rw [List.length_take]; omega)]
    have ho' : o < cur.size := by omega
    simp [Nat.min_eq_left (Nat.le_of_lt ho')]
end
namespace Kd
def Q {α : Type} (d : Kd α) (e : Nat) (w : World) (base : Nat) (ok : Nat → Prop) (v : Value) (xs : List α) : Prop :=
  (∀ k, v.ownBlock = some k → ok k) ∧ ∃ inner, QRow w base e d.sz v xs.length inner ∧ Reps (d.M w base (fun k => ok k ∧ some k ≠ v.ownBlock)) d.sz xs inner
end Kd
namespace Kd
theorem reps_append {α : Type} {R : α → List Value → Prop} {size : Nat} {ps qs : List α} {cs ds : List Value} (h : Reps R size ps cs) (h' : Reps R size qs ds) : Reps R size (ps ++ qs) (cs ++ ds) := by
  refine ⟨by rw [List.length_append, List.length_append, h.1, h'.1, Nat.add_mul], fun j p hj => ?_⟩
  rcases Nat.lt_or_ge j ps.length with hlt | hge
  · rw [List.getElem?_append_left hlt] at hj
    have hle : j * size + size ≤ cs.length := by rw [h.1, ← Nat.succ_mul]; exact Nat.mul_le_mul_right _ hlt
    rw [List.drop_append_of_le_length (by omega), List.take_append_of_le_length (by rw [List.length_drop]; omega)]
    exact h.2 j p hj
  · rw [List.getElem?_append_right hge] at hj
    have h2 := h'.2 (j - ps.length) p hj
    have hle : ps.length * size ≤ j * size := Nat.mul_le_mul_right _ hge
    rw [List.drop_append, List.drop_eq_nil_of_le (by rw [h.1]; exact hle), List.nil_append, h.1, ← Nat.sub_mul]
    exact h2
end Kd
theorem ReadsInt.nil (W : World) (k : IntKind) : ReadsInt W k none ([] : List Int).length [] := ⟨rfl, by simp, fun h => absurd h (Nat.lt_irrefl 0)⟩
theorem ReadsInt.drewN {W : World} {k : IntKind} {A : Option Addr} {n : Nat} {xs : List Int} (h : ReadsInt W k A n xs) (m : Nat) : ReadsInt (W.drewN m) k A n xs := h
theorem ReadsOf.nil {α : Type} (enc : α → Value) (d : α) (W : World) : ReadsOf enc d W none ([] : List α).length [] := ⟨rfl, by simp, fun h => absurd h (Nat.lt_irrefl 0)⟩
theorem ReadsOf.drewN {α : Type} {enc : α → Value} {d : α} {W : World} {A : Option Addr} {n : Nat} {xs : List α} (h : ReadsOf enc d W A n xs) (m : Nat) : ReadsOf enc d (W.drewN m) A n xs := h
theorem below_drew1 {base : Nat} {w W : World} (h : Below base w W) : Below base w W.drew := h.drew
section
variable {P : Program} {ops : Array Oper} {o : Oper} {a : Act} {Q : Exit → Act → World → Prop} {Kc : Act → World → Prop}
theorem event_step {W w1 : World} {v : Value} (hw : Region.wanted o (yielded ops a.tmps) = true) (hrun : (execOp a.eval o).run P W = .ok (.value v) w1) (h : Kc (a.put o.dst v) w1) : if Region.wanted o (yielded ops a.tmps) = true then Oper.wp P o a W Kc Q else Kc (a.put o.dst undef) W := by
  rw [if_pos hw]
  unfold Oper.wp
  rw [hrun]
  exact h
namespace Kd
variable {α : Type}
theorem R_lit_step (d : Kd α) {w0 W : World} (base e : Nat) (hw : Region.wanted o (yielded ops a.tmps) = true) {N : Tmp} (_hd : o.dst = some N) {xs : List α} {inner : List Value} {ok okp : Nat → Prop}
    (hrun : (execOp a.eval o).run P W = .ok (.value (.slice (some ⟨W.heap.size, 0, none⟩) xs.length xs.length)) (W.alloc (.cells inner.toArray e)))
    (hrep : Reps (d.M W base okp) d.sz xs inner) (hok : ∀ k, okp k → ok k) (hfresh : ok W.heap.size) (HB : Below base w0 W) (hbase : base ≤ W.heap.size) (hm : xs.length ≤ 9223372036854775807)
    (h : ∀ v1 w1, d.R e w1 base ok v1 xs → Below base w0 w1 → W.grownBy w1 none → (∃ b, v1.ownBlock = some b ∧ W.heap.size ≤ b) → Kc (a.put o.dst v1) w1) : if Region.wanted o (yielded ops a.tmps) = true then Oper.wp P o a W Kc Q else Kc (a.put o.dst undef) W := by
  refine event_step hw hrun (h _ _ ⟨fun k hk => ?_, inner, ?_, ?_⟩ (HB.alloc hbase _) (World.grownBy_alloc W _ none) ⟨W.heap.size, by simp [Value.ownBlock], Nat.le_refl _⟩)
  · have : W.heap.size = k := by simpa [Value.ownBlock] using hk
    subst this
    exact hfresh
  · have h2 := World.ownsRow_lit (base := base) (e := e) (size := d.sz) W inner.toArray xs.length hbase (by simpa [maxLen] using hm) (by simpa using hrep.1)
    simpa using h2
  · refine hrep.imp_ (fun p c hp => d.M_mono (fun k hk => ⟨hok k hk.1, fun he => ?_⟩) (M_below (d.M_bound hp) (below_alloc (Below.refl _ _) _)))
    have h3 : k = W.heap.size := by simpa [Value.ownBlock] using he
    have := hk.2.2.1
    omega
theorem R_append_rows_step (d : Kd α) {Rr : α → List Value → Prop} {w0 W : World} (base : Nat) (hw : Region.wanted o (yielded ops a.tmps) = true) (s x : Operand) (t e : TypeId) (z : Value) (bytes : Nat)
    (ho : o.op = .call { callee := .builtin .append, args := #[s, x], argTypes := #[t, t] })
    (ht : P.underlying t = some (.slice e)) (hinfo : (P.info? e).map (fun i => (i.zero, i.size, i.bytes)) = some (some z, d.sz, bytes)) (hz : z.cells.size = d.sz) (hs0 : 0 < d.sz) (hb0 : 0 < bytes)
    (v : Value) (xs ys : List α) (A : Option Addr) (m c : Nat) (ok okp : Nat → Prop) (hs : a.eval s = v) (hx : a.eval x = .slice A m c)
    (HO : d.R e W base ok v xs) (HR : ReadsRow Rr d.sz W A m ys) (hKM : ∀ x cs, Rr x cs → d.M W base okp x cs) (hokp : ∀ k, okp k → ok k ∧ some k ≠ v.ownBlock) (hfresh : ∀ k, W.heap.size ≤ k → ok k)
    (HB : Below base w0 W) (hbase : base ≤ W.heap.size) (hl : (xs.length + m) * bytes ≤ 140737488355328)
    (h : ∀ v1 w1, d.R e w1 base ok v1 (xs ++ ys) → Below base w0 w1 → W.grownBy w1 v.ownBlock → (v1.ownBlock = v.ownBlock ∨ ∃ b, v1.ownBlock = some b ∧ W.heap.size ≤ b) → Kc (a.put o.dst v1) w1) :
    if Region.wanted o (yielded ops a.tmps) = true then Oper.wp P o a W Kc Q else Kc (a.put o.dst undef) W := by
  obtain ⟨i0, hi, hzz⟩ := Option.map_eq_some_iff.1 hinfo
  simp only [Prod.mk.injEq] at hzz
  obtain ⟨hz0, hz1, hz2⟩ := hzz
  have hm : ys.length = m := HR.1
  have hlen : xs.length + m ≤ 140737488355328 := Nat.le_trans (Nat.le_mul_of_pos_right _ hb0) hl
  obtain ⟨hok, inner, hown, hr⟩ := HO
  have hrun : ∃ v1 w1, (Builtin.append_ #[t, t] o.type #[v, .slice A m c]).run P W = .ok v1 w1 ∧ d.R e w1 base ok v1 (xs ++ ys) ∧ W.grownBy w1 v.ownBlock ∧ (v1.ownBlock = v.ownBlock ∨ ∃ b, v1.ownBlock = some b ∧ W.heap.size ≤ b) := by
    rcases A with _ | ad
    · have h0 : m = 0 := by
        rcases Nat.eq_zero_or_pos m with h0 | h0
        · exact h0
        · obtain ⟨ad, h, _⟩ := HR.2.2 h0
          cases h
      subst h0
      obtain rfl : ys = [] := List.eq_nil_of_length_eq_zero hm
      refine ⟨v, W, ?_, by rw [List.append_nil]; exact ⟨hok, inner, hown, hr⟩, World.grownBy.refl W _, .inl rfl⟩
      rcases hown.2 with ⟨rfl, hn⟩ | ⟨g, cap, cur, rfl, _, _, hnc, _⟩
      · simp [Builtin.append_, run_underlying ht, sizeOf, typeInfo, hi, Builtin.lenOf, Builtin.firstCells]
      · simp [Builtin.append_, run_underlying ht, sizeOf, typeInfo, hi, Builtin.lenOf, Builtin.firstCells, hnc, storeCells]
    · obtain ⟨news, hnr, hnc⟩ := ReadsRow.inner_ HR
      have hnM : Reps (d.M W base okp) d.sz ys news := hnr.imp_ (fun p c hp => hKM p c hp)
      have hone : ∀ u ∈ news, u.oneCell' = true := by
        intro u hu
        obtain ⟨q, hq, rfl⟩ := List.mem_iff_getElem.1 hu
        have hql : q / d.sz < ys.length := by
          rw [Nat.div_lt_iff_lt_mul hs0]
          rw [← hnM.1]
          exact hq
        have hc := hnM.2 (q / d.sz) _ (List.getElem?_eq_getElem hql)
        refine d.K_one (d.K_of_M hc) _ ?_
        rw [List.mem_iff_getElem?]
        refine ⟨q % d.sz, ?_⟩
        rw [List.getElem?_take, if_pos (Nat.mod_lt _ hs0), List.getElem?_drop, Nat.mul_comm, Nat.div_add_mod, List.getElem?_eq_getElem hq]
      obtain ⟨v1, w1, hrun, h2, hg, _, hat⟩ := run_append_own_at (P := P) W base t o.type e i0 z d.sz bytes ht hi hz0 hz1 hz2 hz hs0 v xs.length inner hown ad m c news (by rw [hnM.1, hm]) hnc hone (by simp only [maxLen]; omega) hl hbase
      have hat' : v1.ownBlock = v.ownBlock ∨ ∃ b, v1.ownBlock = some b ∧ W.heap.size ≤ b := by
        rcases hat with hat | hat
        · exact .inl hat
        · exact .inr ⟨_, hat, Nat.le_refl _⟩
      have hne : ∀ k, some k ≠ v.ownBlock → k < W.heap.size → some k ≠ v1.ownBlock := by
        intro k hk hlt
        rcases hat' with hat | ⟨b, hb, hle⟩
        · rw [hat]; exact hk
        · rw [hb]
          intro he
          injection he with he
          omega
      have step : ∀ {q : α} {c : List Value} {o : Nat → Prop}, d.M W base o q c → (∀ k, o k → ok k ∧ some k ≠ v.ownBlock) → d.M w1 base (fun k => ok k ∧ some k ≠ v1.ownBlock) q c := by
        intro q c o hq ho
        have h1 := d.M_move (w1 := w1) (fun k hk => hg.block k hk.2.2.1 (ho k hk.1).2) (d.M_bound hq)
        exact d.M_mono (fun k hk => ⟨(ho k hk.1).1, hne k (ho k hk.1).2 hk.2.2.1⟩) h1
      refine ⟨v1, w1, hrun, ⟨fun k hk => ?_, inner ++ news, by rw [List.length_append, hm]; exact h2, reps_append (hr.imp_ (fun _ _ hq => step hq (fun _ hk => hk))) (hnM.imp_ (fun _ _ hq => step hq hokp))⟩, hg, hat'⟩
      rcases hat' with hat | ⟨b, hb, hle⟩
      · exact hok k (hat ▸ hk)
      · rw [hb] at hk
        injection hk with hk
        exact hfresh k (by omega)
  obtain ⟨v1, w1, hr1, h1, hg, hat⟩ := hrun
  rw [if_pos hw]
  unfold Oper.wp execOp
  simp only [ho, resolve, invoke, builtin, Sem.run_bind, Sem.run_pure, Result.andThen_ok, List.map_toArray, List.map_cons, List.map_nil, hs, hx, hr1]
  exact h v1 w1 h1 (HB.grown hg hbase (own_base hown)) hg hat
end Kd
end
inductive Vals (P : Program) (tmps : Array Value) (w : World) : List ResultVar → List Value → Prop where
  | nil : Vals P tmps w [] []
  | tmp {u : Tmp} {rs : List ResultVar} {vs : List Value} (h : Vals P tmps w rs vs) : Vals P tmps w (.tmp u :: rs) (tmps.getD u undef :: vs)
  | cell {p : Tmp} {ty : TypeId} {rs : List ResultVar} {vs : List Value} (g : Nat) (t : TypeId) (cs : Array Value) (fr : Nat × Nat) (d : TypeDesc)
      (hp : tmps.getD p undef = .pointer (some ⟨g, 0, none⟩)) (hg : w.heap[g]? = some (.cells cs t fr))
      (hu : P.underlying ty = some d) (hd : (match d with | .struct _ | .array _ _ => true | _ => false) = true) (hi : (P.info? ty).map (·.size) = some cs.size)
      (h : Vals P tmps w rs vs) : Vals P tmps w (.cell p ty :: rs) (.agg cs :: vs)
end Go.Proofs.YtaaipbhfikefaaaDoorW.PrintWords
end

section
namespace Go.Proofs.YtaaipbhfikefaaaDoorW.PrintLast
section
variable {P : Program} {ops : Array Oper} {Q : Exit → Act → World → Prop} {md : Region.Mode} {S : World → Prop} {ds : List Nat}
/-- Operation d waits for operation i, by a chain of at most 'fuel' edges. -/
def Region.reachB (md : Region.Mode) (ops : Array Oper) (i : Nat) : Nat → Nat → Bool
  | 0, _ => false
  | fuel + 1, d => match ops[d]? with
    | some o => o.after.any fun e => Region.binds md e && (e.on == i || Region.reachB md ops i fuel e.on)
    | none => false
/-- What is listed is closed under the edges. -/
def Region.closedB (md : Region.Mode) (ops : Array Oper) (listed : Array Bool) : Bool :=
  (List.range ops.size).all fun j => !listed.getD j false || match ops[j]? with
    | some o => o.after.all fun e => !Region.binds md e || listed.getD e.on false
    | none => true
/-- Each of ds that has not come up yet waits for number i. -/
def Region.lastB (md : Region.Mode) (ops : Array Oper) (listed : Array Bool) (ds : List Nat) (i : Nat) : Bool :=
  ds.all fun d => listed.getD d true || Region.reachB md ops i ops.size d
def ListedClosed (md : Region.Mode) (ops : Array Oper) (listed : Array Bool) : Prop :=
  ∀ j oj, ops[j]? = some oj → listed.getD j false = true → ∀ e ∈ oj.after, Region.binds md e = true → listed.getD e.on false = true
theorem Region.closedB_spec {listed : Array Bool} (h : Region.closedB md ops listed = true) : ListedClosed md ops listed := by
  intro j oj hj hl e he hb
  have hlt : j < ops.size := (Array.getElem?_eq_some_iff.1 hj).1
  have h1 := List.all_eq_true.1 h j (List.mem_range.2 hlt)
  simp only [hl, hj, Bool.not_true, Bool.false_or] at h1
  have h2 := Array.all_eq_true_iff_forall_mem.1 h1 e he
  simpa [hb] using h2
theorem ListedClosed.set {listed : Array Bool} {i : Nat} (h : ListedClosed md ops listed) (hi : i ∈ Region.ready md ops listed) : ListedClosed md ops (listed.setIfInBounds i true) := by
  obtain ⟨_, oi, hoi, hall⟩ := mem_ready.1 hi
  intro j oj hj hl e he hb
  by_cases hij : i = j
  · subst hij
    have : oj = oi := Option.some.inj (hj.symm.trans hoi)
    subst this
    exact getD_set_true (hall e he hb)
  · rw [getD_set_ne false hij] at hl
    exact getD_set_true (h j oj hj hl e he hb)
theorem Region.reach_listed {listed : Array Bool} {i : Nat} (hc : ListedClosed md ops listed) : ∀ (fuel d : Nat), Region.reachB md ops i fuel d = true → listed.getD d false = true → listed.getD i false = true
  | 0, _, h, _ => by simp [Region.reachB] at h
  | fuel + 1, d, h, hl => by
    unfold Region.reachB at h
    cases ho : ops[d]? with
    | none => rw [ho] at h; simp at h
    | some o =>
      rw [ho] at h
      obtain ⟨e, he, h1⟩ := Array.any_eq_true'.1 h
      simp only [Bool.and_eq_true, Bool.or_eq_true, beq_iff_eq] at h1
      have hle := hc d o ho hl e he h1.1
      rcases h1.2 with h2 | h2
      · rw [← h2]; exact hle
      · exact Region.reach_listed hc fuel e.on h2 hle
/-- What waits for i cannot come up before i is listed. -/
theorem Region.reach_not_ready {listed : Array Bool} {i d fuel : Nat} (hc : ListedClosed md ops listed) (hr : Region.reachB md ops i fuel d = true) (hun : listed.getD i true = false) : d ∉ Region.ready md ops listed := by
  intro hd
  obtain ⟨_, o, ho, hall⟩ := mem_ready.1 hd
  have hi : listed.getD i false = true := by
    cases fuel with
    | zero => simp [Region.reachB] at hr
    | succ n =>
      unfold Region.reachB at hr
      rw [ho] at hr
      obtain ⟨e, he, h1⟩ := Array.any_eq_true'.1 hr
      simp only [Bool.and_eq_true, Bool.or_eq_true, beq_iff_eq] at h1
      have hle := hall e he h1.1
      rcases h1.2 with h2 | h2
      · rw [← h2]; exact hle
      · exact Region.reach_listed hc n e.on h2 hle
  rcases Nat.lt_or_ge i listed.size with h' | h'
  · simp [h'] at hun hi
    rw [hun] at hi
    cases hi
  · simp [Array.getElem?_eq_none h'] at hun
/-- Whatever order is picked from here on, AND 'S' HOLDS BEHIND EVERY OPERATION THAT IS CARRIED OUT, those of ds apart. -/
def wpAnyLast (P : Program) (md : Region.Mode) (ops : Array Oper) (Q : Exit → Act → World → Prop) (S : World → Prop) (ds : List Nat) : Nat → Array Bool → Act → World → Prop
  | 0, listed, a, w => Region.ready md ops listed = [] ∧ Q .normal a w
  | fuel + 1, listed, a, w =>
    (Region.ready md ops listed = [] → Q .normal a w) ∧
    ∀ i ∈ Region.ready md ops listed, wpOp P ops Q i (fun a' w' => (i ∉ ds → S w → S w') ∧ wpAnyLast P md ops Q S ds fuel (listed.setIfInBounds i true) a' w') a w
theorem wpAny_of_last : ∀ (fuel : Nat) (listed : Array Bool) (a : Act) (w : World), wpAnyLast P md ops Q S ds fuel listed a w → wpAny P md ops Q fuel listed a w
  | 0, _, _, _, h => h
  | fuel + 1, _, _, _, h => ⟨h.1, fun i hi => wpOp_mono (fun a' w' h' => wpAny_of_last fuel _ a' w' h'.2) (h.2 i hi)⟩
theorem wpAnyLast_first {i : Nat} {oi : Oper} {v : Value} (hi : ops[i]? = some oi) (hsel : ∀ (j : Nat) (o : Oper) cs b, ops[j]? = some o → o.op ≠ .select cs b)
    (hQ : ∀ c a w, Q (.panic c) (a.put oi.dst v) w → Q (.panic c) a w) (n : Nat) :
    ∀ (fuel : Nat) (listed : Array Bool) (a : Act) (w : World),
      (∀ j oj, ops[j]? = some oj → j ≠ i → listed.getD j true = false → (∀ e ∈ oj.after, Region.binds md e = true → e.on ≠ i) → oi.apart ops oj = true) →
      ListedClosed md ops listed → (∀ d ∈ ds, listed.getD d true = false → Region.reachB md ops i n d = true) →
      i ∈ Region.ready md ops listed → YieldsIf P ops S oi v a → S w →
      wpAnyLast P md ops Q S ds fuel (listed.setIfInBounds i true) (a.put oi.dst v) w → wpAnyLast P md ops Q S ds (fuel + 1) listed a w := by
  intro fuel
  induction fuel with
  | zero =>
    intro listed a w _ _ _ hr hy hS H
    refine ⟨fun h => (by rw [h] at hr; cases hr), fun j hj => ?_⟩
    by_cases hji : j = i
    · subst hji; exact hy.wpOp hi hS ⟨fun _ h => h, H⟩
    · have := ready_mono hj hji
      rw [H.1] at this
      cases this
  | succ fuel ih =>
    intro listed a w hfree hc hd hr hy hS H
    refine ⟨fun h => (by rw [h] at hr; cases hr), fun j hj => ?_⟩
    by_cases hji : j = i
    · subst hji; exact hy.wpOp hi hS ⟨fun _ h => h, H⟩
    · have h1 := H.2 j (ready_mono hj hji)
      obtain ⟨hjun, oj, hoj, hall⟩ := mem_ready.1 hj
      have hiun := (mem_ready.1 hr).1
      have hnot : ∀ e ∈ oj.after, Region.binds md e = true → e.on ≠ i := fun e he hb heq => by
        have h1 := hall e he hb
        rw [heq] at h1
        rcases Nat.lt_or_ge i listed.size with h' | h'
        · simp [h'] at hiun h1; rw [hiun] at h1; cases h1
        · simp [Array.getElem?_eq_none h'] at h1
      have hjd : j ∉ ds := fun hm => Region.reach_not_ready hc (hd j hm hjun) hiun hj
      have h2 := wpOp_putIf hoj (hfree j oj hoj hji hjun hnot) (fun cs b => hsel i oi cs b hi) (fun cs b => hsel j oj cs b hoj) hQ hy h1
      have hfree' : ∀ k ok, ops[k]? = some ok → k ≠ i → (listed.setIfInBounds j true).getD k true = false →
          (∀ e ∈ ok.after, Region.binds md e = true → e.on ≠ i) → oi.apart ops ok = true := fun k ok hk hki hun hno => by
        refine hfree k ok hk hki ?_ hno
        by_cases hjk : j = k
        · subst hjk; exact hjun
        · rw [getD_set_ne true hjk] at hun; exact hun
      have hd' : ∀ d ∈ ds, (listed.setIfInBounds j true).getD d true = false → Region.reachB md ops i n d = true := fun d hm hun => by
        refine hd d hm ?_
        by_cases hjk : j = d
        · subst hjk; exact hjun
        · rw [getD_set_ne true hjk] at hun; exact hun
      refine wpOp_mono (fun a' w' h3 => ⟨h3.2.1, ih (listed.setIfInBounds j true) a' w' hfree' (hc.set hj) hd' (ready_mono hr (Ne.symm hji)) h3.1 (h3.2.1 hjd hS) ?_⟩) h2
      rw [Array.setIfInBounds_comm _ _ hji]
      exact h3.2.2
/-- Take number 'i' first, which yields whatever the world: no S is asked for, nor that anything waits for it. -/
theorem wpAnyLast_any {i : Nat} {oi : Oper} {v : Value} (hi : ops[i]? = some oi) (hsel : ∀ (j : Nat) (o : Oper) cs b, ops[j]? = some o → o.op ≠ .select cs b)
    (hQ : ∀ c a w, Q (.panic c) (a.put oi.dst v) w → Q (.panic c) a w) :
    ∀ (fuel : Nat) (listed : Array Bool) (a : Act) (w : World),
      (∀ j oj, ops[j]? = some oj → j ≠ i → listed.getD j true = false → (∀ e ∈ oj.after, Region.binds md e = true → e.on ≠ i) → oi.apart ops oj = true) →
      i ∈ Region.ready md ops listed → Yields P ops oi v a →
      wpAnyLast P md ops Q S ds fuel (listed.setIfInBounds i true) (a.put oi.dst v) w → wpAnyLast P md ops Q S ds (fuel + 1) listed a w := by
  intro fuel
  induction fuel with
  | zero =>
    intro listed a w _ hr hy H
    refine ⟨fun h => (by rw [h] at hr; cases hr), fun j hj => ?_⟩
    by_cases hji : j = i
    · subst hji; exact (hy.yieldsIf (S := fun _ => True)).wpOp hi trivial ⟨fun _ h => h, H⟩
    · have := ready_mono hj hji
      rw [H.1] at this
      cases this
  | succ fuel ih =>
    intro listed a w hfree hr hy H
    refine ⟨fun h => (by rw [h] at hr; cases hr), fun j hj => ?_⟩
    by_cases hji : j = i
    · subst hji; exact (hy.yieldsIf (S := fun _ => True)).wpOp hi trivial ⟨fun _ h => h, H⟩
    · have h1 := H.2 j (ready_mono hj hji)
      obtain ⟨hjun, oj, hoj, hall⟩ := mem_ready.1 hj
      have hiun := (mem_ready.1 hr).1
      have hnot : ∀ e ∈ oj.after, Region.binds md e = true → e.on ≠ i := fun e he hb heq => by
        have h1 := hall e he hb
        rw [heq] at h1
        rcases Nat.lt_or_ge i listed.size with h' | h'
        · simp [h'] at hiun h1; rw [hiun] at h1; cases h1
        · simp [Array.getElem?_eq_none h'] at h1
      have h2 := wpOp_put hoj (hfree j oj hoj hji hjun hnot) (fun cs b => hsel i oi cs b hi) (fun cs b => hsel j oj cs b hoj) hQ hy h1
      have hfree' : ∀ k ok, ops[k]? = some ok → k ≠ i → (listed.setIfInBounds j true).getD k true = false →
          (∀ e ∈ ok.after, Region.binds md e = true → e.on ≠ i) → oi.apart ops ok = true := fun k ok hk hki hun hno => by
        refine hfree k ok hk hki ?_ hno
        by_cases hjk : j = k
        · subst hjk; exact hjun
        · rw [getD_set_ne true hjk] at hun; exact hun
      refine wpOp_mono (fun a' w' h3 => ⟨h3.2.1, ih (listed.setIfInBounds j true) a' w' hfree' (ready_mono hr (Ne.symm hji)) h3.1 ?_⟩) h2
      rw [Array.setIfInBounds_comm _ _ hji]
      exact h3.2.2
/-- Take number 'i' first. -/
theorem wpAnyLast_take {i : Nat} {oi : Oper} {v : Value} {fuel : Nat} {listed : Array Bool} {a : Act} {w : World} (hi : ops[i]? = some oi)
    (hs : Region.noSelect ops = true) (hf : Region.free md ops listed i = true) (hr : (Region.ready md ops listed).contains i = true)
    (hc : Region.closedB md ops listed = true) (hl : Region.lastB md ops listed ds i = true)
    (hQ : ∀ c a w, Q (.panic c) (a.put oi.dst v) w → Q (.panic c) a w) (hy : YieldsIf P ops S oi v a) (hS : S w)
    (h : wpAnyLast P md ops Q S ds fuel (listed.setIfInBounds i true) (a.put oi.dst v) w) : wpAnyLast P md ops Q S ds (fuel + 1) listed a w :=
  wpAnyLast_first hi (Region.noSelect_spec hs) hQ ops.size fuel listed a w (Region.free_spec hi hf) (Region.closedB_spec hc)
    (fun d hm hun => by have := List.all_eq_true.1 hl d hm; rw [hun] at this; simpa using this) (by simpa using hr) hy hS h
theorem wpAnyLast_all {rs : List Nat} {fuel : Nat} {listed : Array Bool} {a : Act} {w : World} (hr : Region.ready md ops listed = rs) (hne : rs ≠ [])
    (h : ∀ i ∈ rs, wpOp P ops Q i (fun a' w' => (i ∉ ds → S w → S w') ∧ wpAnyLast P md ops Q S ds fuel (listed.setIfInBounds i true) a' w') a w) : wpAnyLast P md ops Q S ds (fuel + 1) listed a w :=
  ⟨fun h0 => absurd (hr ▸ h0) hne, hr ▸ h⟩
theorem wpAnyLast_done {listed : Array Bool} {a : Act} {w : World} (hr : Region.ready md ops listed = []) (h : Q .normal a w) :
    ∀ fuel, wpAnyLast P md ops Q S ds fuel listed a w
  | 0 => ⟨hr, h⟩
  | _ + 1 => ⟨fun _ => h, by rw [hr]; simp⟩
theorem wp_region_last {id : Nat} {a : Act} {w : World} (hm : P.follows .mixedOrders = true)
    (h : wpAnyLast P .any ops Q S ds ops.size (Array.replicate ops.size false) a { w with drawn := w.drawn + 1 }) : (Code.region id ops true).wp P Q a w :=
  wp_region_any hm (wpAny_of_last _ _ _ _ h)
end
section
variable {P : Program} {ops : Array Oper} {Q : Exit → Act → World → Prop} {md : Region.Mode} {S : World → Prop} {ds : List Nat}
def AllReadyL (P : Program) (md : Region.Mode) (ops : Array Oper) (Q : Exit → Act → World → Prop) (S : World → Prop) (ds : List Nat) (fuel : Nat) (listed : Array Bool) (a : Act) (w : World) (rs : List Nat) : Prop :=
  ∀ i ∈ rs, wpOp P ops Q i (fun a' w' => (i ∉ ds → S w → S w') ∧ wpAnyLast P md ops Q S ds fuel (listed.setIfInBounds i true) a' w') a w
theorem AllReadyL.nil {fuel : Nat} {listed : Array Bool} {a : Act} {w : World} : AllReadyL P md ops Q S ds fuel listed a w [] := fun _ h => by cases h
theorem AllReadyL.cons {fuel : Nat} {listed : Array Bool} {a : Act} {w : World} {i : Nat} {o : Oper} {rs : List Nat} (ho : ops[i]? = some o) (hd : i ∉ ds)
    (h : ∀ K' : Act → World → Prop, Shut (∀ a w, S w → (S w → wpAnyLast P md ops Q S ds fuel (listed.setIfInBounds i true) a w) → K' a w) → if Region.wanted o (yielded ops a.tmps) = true then Oper.wp P o a w K' Q else K' (a.put o.dst undef) w)
    (hs : AllReadyL P md ops Q S ds fuel listed a w rs) : AllReadyL P md ops Q S ds fuel listed a w (i :: rs) := fun j hj => by
  rcases List.mem_cons.1 hj with rfl | hj
  · exact wpOp_step ho (fun K' hK => h K' (fun a w hS hW => hK a w ⟨fun _ _ => hS, hW hS⟩))
  · exact hs j hj
/-- Behind an operation of ds nothing is shown. -/
theorem AllReadyL.cons_last {fuel : Nat} {listed : Array Bool} {a : Act} {w : World} {i : Nat} {o : Oper} {rs : List Nat} (ho : ops[i]? = some o) (hd : i ∈ ds)
    (h : ∀ K' : Act → World → Prop, Shut (∀ a w, wpAnyLast P md ops Q S ds fuel (listed.setIfInBounds i true) a w → K' a w) → if Region.wanted o (yielded ops a.tmps) = true then Oper.wp P o a w K' Q else K' (a.put o.dst undef) w)
    (hs : AllReadyL P md ops Q S ds fuel listed a w rs) : AllReadyL P md ops Q S ds fuel listed a w (i :: rs) := fun j hj => by
  rcases List.mem_cons.1 hj with rfl | hj
  · exact wpOp_step ho (fun K' hK => h K' (fun a w hW => hK a w ⟨fun hn => absurd hd hn, hW⟩))
  · exact hs j hj
theorem wpAnyLast_ready {rs : List Nat} {fuel : Nat} {listed : Array Bool} {a : Act} {w : World} (hr : Region.ready md ops listed = rs) (hne : rs ≠ [])
    (h : AllReadyL P md ops Q S ds fuel listed a w rs) : wpAnyLast P md ops Q S ds (fuel + 1) listed a w := wpAnyLast_all hr hne h
/-- THE SAME STEPS WITH WHAT HAS COME UP WRITTEN OUT (a literal array of Bools) and one check a step: quicker, and what is printed stays short. -/
theorem start_ {id n : Nat} {a : Act} {w : World} (l : Array Bool) (hm : P.follows .mixedOrders = true) (hn : ops.size = n) (hl : Array.replicate n false = l) (hS : S w.drew)
    (h : S w.drew → wpAnyLast P .any ops Q S ds n l a w.drew) : (Code.region id ops true).wp P Q a w := by
  subst hn
  subst hl
  exact wp_region_last hm (h hS)
def takeB (md : Region.Mode) (ops : Array Oper) (ds : List Nat) (l l' : Array Bool) (i : Nat) : Bool :=
  Region.noSelect ops && Region.free md ops l i && (Region.ready md ops l).contains i && Region.closedB md ops l && Region.lastB md ops l ds i && (l.setIfInBounds i true == l')
theorem take_ {i : Nat} {N : Option Tmp} {oi : Oper} {v : Value} {fuel : Nat} {l : Array Bool} {a : Act} {w : World} (l' : Array Bool) (hi : ops[i]? = some oi) (hN : oi.dst = N) (hc : takeB md ops ds l l' i = true)
    (hQ : ∀ c a w, Q (.panic c) (a.put oi.dst v) w → Q (.panic c) a w) (hy : YieldsIf P ops S oi v a) (hS : S w) {a' : Act} (ha : a.put N v = a')
    (h : wpAnyLast P md ops Q S ds fuel l' a' w) : wpAnyLast P md ops Q S ds (fuel + 1) l a w := by
  subst ha
  subst hN
  simp only [takeB, Bool.and_eq_true, beq_iff_eq] at hc
  obtain ⟨⟨⟨⟨⟨h1, h2⟩, h3⟩, h4⟩, h5⟩, h6⟩ := hc
  subst h6
  exact wpAnyLast_take hi h1 h2 h3 h4 h5 hQ hy hS h
def anyB (md : Region.Mode) (ops : Array Oper) (l l' : Array Bool) (i : Nat) : Bool :=
  Region.noSelect ops && Region.free md ops l i && (Region.ready md ops l).contains i && (l.setIfInBounds i true == l')
/-- An operation that yields in every world (a move, a number, an address): taken first wherever it may come up, behind a store too. -/
theorem pure_ {i : Nat} {N : Option Tmp} {oi : Oper} {v : Value} {fuel : Nat} {l : Array Bool} {a : Act} {w : World} (l' : Array Bool) (hi : ops[i]? = some oi) (hN : oi.dst = N) (hc : anyB md ops l l' i = true)
    (hQ : ∀ c a w, Q (.panic c) (a.put oi.dst v) w → Q (.panic c) a w) (hy : Yields P ops oi v a) {a' : Act} (ha : a.put N v = a')
    (h : wpAnyLast P md ops Q S ds fuel l' a' w) : wpAnyLast P md ops Q S ds (fuel + 1) l a w := by
  subst ha
  subst hN
  simp only [anyB, Bool.and_eq_true, beq_iff_eq] at hc
  obtain ⟨⟨⟨h1, h2⟩, h3⟩, h6⟩ := hc
  subst h6
  exact wpAnyLast_any hi (Region.noSelect_spec h1) hQ fuel l a w (Region.free_spec hi h2) (by simpa using h3) hy h
def readyB (md : Region.Mode) (ops : Array Oper) (l l' : Array Bool) (i : Nat) : Bool := (Region.ready md ops l == [i]) && (l.setIfInBounds i true == l')
/-- One operation alone may come up now (a call, a build, an append ..): it is run, S is shown behind it. -/
theorem one_ {i : Nat} {N : Option Tmp} {oi : Oper} {fuel : Nat} {l : Array Bool} {a : Act} {w : World} (l' : Array Bool) (hi : ops[i]? = some oi) (hN : oi.dst = N) (hc : readyB md ops l l' i = true) (hd : i ∉ ds)
    (h : ∀ K : Act → World → Prop, Shut (∀ a' w', S w' → (S w' → wpAnyLast P md ops Q S ds fuel l' a' w') → K a' w') → if Region.wanted oi (yielded ops a.tmps) = true then Oper.wp P oi a w K Q else K (a.put N undef) w) :
    wpAnyLast P md ops Q S ds (fuel + 1) l a w := by
  subst hN
  simp only [readyB, Bool.and_eq_true, beq_iff_eq] at hc
  obtain ⟨h1, h2⟩ := hc
  subst h2
  exact wpAnyLast_ready h1 (by simp) (AllReadyL.cons hi hd (fun K hK => h K hK) AllReadyL.nil)
/-- The same for one of ds: nothing is shown behind it. -/
theorem last_ {i : Nat} {N : Option Tmp} {oi : Oper} {fuel : Nat} {l : Array Bool} {a : Act} {w : World} (l' : Array Bool) (hi : ops[i]? = some oi) (hN : oi.dst = N) (hc : readyB md ops l l' i = true) (hd : i ∈ ds)
    (h : ∀ K : Act → World → Prop, Shut (∀ a' w', wpAnyLast P md ops Q S ds fuel l' a' w' → K a' w') → if Region.wanted oi (yielded ops a.tmps) = true then Oper.wp P oi a w K Q else K (a.put N undef) w) :
    wpAnyLast P md ops Q S ds (fuel + 1) l a w := by
  subst hN
  simp only [readyB, Bool.and_eq_true, beq_iff_eq] at hc
  obtain ⟨h1, h2⟩ := hc
  subst h2
  exact wpAnyLast_ready h1 (by simp) (AllReadyL.cons_last hi hd (fun K hK => h K hK) AllReadyL.nil)
theorem done_ {l : Array Bool} {a : Act} {w : World} {n : Nat} (hr : (Region.ready md ops l == []) = true) (h : Q .normal a w) : wpAnyLast P md ops Q S ds n l a w := wpAnyLast_done (by simpa using hr) h n
theorem two_ {i j : Nat} {Ni Nj : Option Tmp} {oi oj : Oper} {fuel : Nat} {l : Array Bool} {a : Act} {w : World} (li lj : Array Bool) (hi : ops[i]? = some oi) (hj : ops[j]? = some oj) (hNi : oi.dst = Ni) (hNj : oj.dst = Nj)
    (hc : (Region.ready md ops l == [i, j] && l.setIfInBounds i true == li && l.setIfInBounds j true == lj) = true) (hdi : i ∉ ds) (hdj : j ∉ ds)
    (h1 : ∀ K : Act → World → Prop, Shut (∀ a' w', S w' → (S w' → wpAnyLast P md ops Q S ds fuel li a' w') → K a' w') → if Region.wanted oi (yielded ops a.tmps) = true then Oper.wp P oi a w K Q else K (a.put Ni undef) w)
    (h2 : ∀ K : Act → World → Prop, Shut (∀ a' w', S w' → (S w' → wpAnyLast P md ops Q S ds fuel lj a' w') → K a' w') → if Region.wanted oj (yielded ops a.tmps) = true then Oper.wp P oj a w K Q else K (a.put Nj undef) w) :
    wpAnyLast P md ops Q S ds (fuel + 1) l a w := by
  subst hNi
  subst hNj
  simp only [Bool.and_eq_true, beq_iff_eq] at hc
  obtain ⟨⟨h3, h4⟩, h5⟩ := hc
  subst h4
  subst h5
  exact wpAnyLast_ready h3 (by simp) (AllReadyL.cons hi hdi (fun K hK => h1 K hK) (AllReadyL.cons hj hdj (fun K hK => h2 K hK) AllReadyL.nil))
/-- The act with some destinations filled. -/
def putAll : Act → List (Tmp × Value) → Act
  | a, [] => a
  | a, (n, v) :: r => putAll (a.put (some n) v) r
/-- What follows, once: s the values that the orders leave, F what is known of them and of the world. -/
theorem join_ {σ : Type} {fuel : Nat} {l : Array Bool} {a : Act} {w : World} (fuel' : Nat) (l' : Array Bool) (ns : σ → List (Tmp × Value)) (F : σ → World → Prop)
    (hcont : ∀ s w', F s w' → wpAnyLast P md ops Q S ds fuel' l' (putAll a (ns s)) w')
    (h : (∀ s w', F s w' → wpAnyLast P md ops Q S ds fuel' l' (putAll a (ns s)) w') → wpAnyLast P md ops Q S ds fuel l a w) : wpAnyLast P md ops Q S ds fuel l a w := h hcont
/-- The act written out. -/
theorem norm_ {fuel : Nat} {l : Array Bool} {a a' : Act} {w : World} (ha : a = a') (h : wpAnyLast P md ops Q S ds fuel l a' w) : wpAnyLast P md ops Q S ds fuel l a w := by
  subst ha
  exact h
/-- A call of a Go function, by its contract. -/
theorem call_ {oi : Oper} {N : Option Tmp} {a : Act} {w : World} {K : Act → World → Prop} (f : FuncId) (args : Array Value) (hw : Region.wanted oi (yielded ops a.tmps) = true) (hN : oi.dst = N) (hrun : (execOp a.eval oi).run P w = .ok (.enter f args) w)
    (h : Calls P f args w fun e w' => ∃ v, e = .returned v ∧ K (a.put N v) w') : if Region.wanted oi (yielded ops a.tmps) = true then Oper.wp P oi a w K Q else K (a.put N undef) w := by
  rw [if_pos hw]
  subst hN
  unfold Oper.wp
  rw [hrun, Oper.upon_enter]
  refine h.mono fun e w'' hh => ?_
  obtain ⟨v, rfl, hk⟩ := hh
  exact hk
theorem enters_ {f : FuncId} {fn : Func} (hf : P.funcs[f]? = some fn) (hname : (fn.name == "runtime.NumGoroutine") = false) (hb : fn.body.isSome = true) (args : Array Value) (w : World) : (callFunc f args).run P w = .ok (.enter f args) w := by
  have h1 : fn.name ≠ "runtime.NumGoroutine" := by simpa using hname
  obtain ⟨c, hc⟩ := Option.isSome_iff_exists.1 hb
  simp [callFunc, hf, h1, hc]
/-- The same, the operation's run shown here: 'goes_ A.func3 (by kernel_rfl) rfl #[..] (by rfl) rfl rfl (by rfl) ?_'. -/
theorem goes_ {oi : Oper} {N : Option Tmp} {a : Act} {w : World} {K : Act → World → Prop} {f : FuncId} {fn : Func} {asz : Array Operand} {ts : Array TypeId} (hf : P.funcs[f]? = some fn) (hname : (fn.name == "runtime.NumGoroutine") = false) (hb : fn.body.isSome = true) (args : Array Value)
    (hw : Region.wanted oi (yielded ops a.tmps) = true) (hN : oi.dst = N) (hop : oi.op = .call { callee := .value (.func f), args := asz, argTypes := ts }) (hargs : asz.map a.eval = args)
    (h : Calls P f args w fun e w' => ∃ v, e = .returned v ∧ K (a.put N v) w') : if Region.wanted oi (yielded ops a.tmps) = true then Oper.wp P oi a w K Q else K (a.put N undef) w := by
  refine call_ f args hw hN ?_ h
  have he := enters_ hf hname hb args w
  unfold execOp
  simp [hop, resolve, Deferred.ofValue, invoke, Act.eval, hargs, he]
theorem i64_w (n : Int) : IntKind.i64.wrap n = Go.RowKit.wrap64 n := by unfold Go.RowKit.wrap64; exact IntKind.wrap_i64 n
theorem i32_w (n : Int) : IntKind.i32.wrap n = Go.RowKit.wrap32 n := by unfold Go.RowKit.wrap32; exact IntKind.wrap_i32 n
end
end Go.Proofs.YtaaipbhfikefaaaDoorW.PrintLast
end

section
namespace Go.Proofs.YtaaipbhfikefaaaDoorW.PrintWords
open Go.RowKit
namespace Kd
/-- An element with its index: its blocks are those that f gives to it. -/
def tag {α : Type} (f : Nat → Nat) (d : Kd α) : Kd (α × Nat) where
  sz := d.sz
  E := d.E
  K := fun w x cs => d.K w x.1 cs
  M := fun w base ok x cs => d.M w base (fun k => ok k ∧ f k = x.2) x.1 cs
  K_len := fun h => d.K_len h
  K_one := fun h => d.K_one h
  K_below := fun hb h => d.K_below hb h
  K_of_M := fun h => d.K_of_M h
  M_mono := fun hok h => d.M_mono (fun k hk => ⟨hok k hk.1, hk.2⟩) h
  M_bound := fun h => d.M_mono (fun _ hk => ⟨⟨hk.1.1, hk.2⟩, hk.1.2⟩) (d.M_bound h)
  M_move := fun hm h => d.M_move (fun k hk => hm k hk.1) h
  M_lower := fun hb h => d.M_lower hb h
/-- The cells themselves. -/
def raw (sz : Nat) : Kd (List Value) where
  sz := sz
  E := []
  K := fun _ x cs => cs = x ∧ cs.length = sz ∧ ∀ u ∈ cs, u.oneCell' = true
  M := fun _ _ _ x cs => cs = x ∧ cs.length = sz ∧ ∀ u ∈ cs, u.oneCell' = true
  K_len := fun h => h.2.1
  K_one := fun h => h.2.2
  K_below := fun _ h => h
  K_of_M := fun h => h
  M_mono := fun _ h => h
  M_bound := fun h => h
  M_move := fun _ h => h
  M_lower := fun _ h => h
/-- A row of elements (type e) of the call's own, no two of which lead to one block. -/
def S {α : Type} (d : Kd α) (e : Nat) (w : World) (base : Nat) (ok : Nat → Prop) (v : Value) (xs : List α) : Prop := ∃ f, (tag f d).R e w base ok v xs.zipIdx
/-- Element i is these cells; the others are d's. -/
def gap {α : Type} (f : Nat → Nat) (d : Kd α) (i : Nat) (c : List Value) : Kd (α × Nat) where
  sz := d.sz
  E := d.E
  K := fun w x cs => (x.2 = i → cs = c ∧ cs.length = d.sz ∧ ∀ u ∈ cs, u.oneCell' = true) ∧ (x.2 ≠ i → d.K w x.1 cs)
  M := fun w base ok x cs => (x.2 = i → cs = c ∧ cs.length = d.sz ∧ ∀ u ∈ cs, u.oneCell' = true) ∧ (x.2 ≠ i → d.M w base (fun k => ok k ∧ f k = x.2) x.1 cs)
  K_len := fun {w x cs} h => by
    by_cases hx : x.2 = i
    · exact (h.1 hx).2.1
    · exact d.K_len (h.2 hx)
  K_one := fun {w x cs} h => by
    by_cases hx : x.2 = i
    · exact (h.1 hx).2.2
    · exact d.K_one (h.2 hx)
  K_below := fun hb h => ⟨h.1, fun hx => d.K_below hb (h.2 hx)⟩
  K_of_M := fun h => ⟨h.1, fun hx => d.K_of_M (h.2 hx)⟩
  M_mono := fun hok h => ⟨h.1, fun hx => d.M_mono (fun k hk => ⟨hok k hk.1, hk.2⟩) (h.2 hx)⟩
  M_bound := fun h => ⟨h.1, fun hx => d.M_mono (fun _ hk => ⟨⟨hk.1.1, hk.2⟩, hk.1.2⟩) (d.M_bound (h.2 hx))⟩
  M_move := fun hm h => ⟨h.1, fun hx => d.M_move (fun k hk => hm k hk.1) (h.2 hx)⟩
  M_lower := fun hb h => ⟨h.1, fun hx => d.M_lower hb (h.2 hx)⟩
def H {α : Type} (d : Kd α) (e : Nat) (w : World) (base : Nat) (ok : Nat → Prop) (v : Value) (xs : List α) (i : Int) (oki : Nat → Prop) (c : List Value) : Prop :=
  (∀ k, oki k → ok k) ∧ ∃ f, (gap f d i.toNat c).R e w base (fun k => ok k ∧ ¬ oki k) v xs.zipIdx
end Kd
end Go.Proofs.YtaaipbhfikefaaaDoorW.PrintWords
end

section
namespace Go.Proofs.YtaaipbhfikefaaaDoorW.PrintWords
open Go.RowKit
namespace Kd
/-- What a kind reads lies in the blocks: nothing else of the world is looked at. -/
structure Heap {α : Type} (d : Kd α) : Prop where
  K : ∀ {w w1 : World} {x : α} {cs : List Value}, (∀ k, k < w.heap.size → w1.heap[k]? = w.heap[k]?) → d.K w x cs → d.K w1 x cs
theorem cell_heap {w w1 : World} (hb : ∀ k, k < w.heap.size → w1.heap[k]? = w.heap[k]?) {a : Addr} {v : Value} (h : w.cell? a = some v) : w1.cell? a = some v := by
  have := hb a.block (World.block_lt_of_cell? w a h)
  simpa [World.cell?, this] using h
theorem Heap.C {α : Type} {d : Kd α} (hd : Heap d) {w w1 : World} {A : Option Addr} {n : Nat} {xs : List α} (hb : ∀ k, k < w.heap.size → w1.heap[k]? = w.heap[k]?) (h : d.C w A n xs) : d.C w1 A n xs :=
  ⟨h.1, h.2.1, fun hn => by
    obtain ⟨ad, e, hc⟩ := h.2.2 hn
    refine ⟨ad, e, fun j p hj => ?_⟩
    obtain ⟨c, hs, hr, hcell⟩ := hc j p hj
    exact ⟨c, hs, hd.K hb hr, fun i u hu => cell_heap hb (hcell i u hu)⟩⟩
end Kd
end Go.Proofs.YtaaipbhfikefaaaDoorW.PrintWords
end

section
namespace Go.Proofs.YtaaipbhfikefaaaDoorW.PrintWords
open Go.RowKit
def Kept (w W : World) (S : Nat → Prop) : Prop := w.heap.size ≤ W.heap.size ∧ ∀ i, i < w.heap.size → ¬ S i → W.heap[i]? = w.heap[i]?
section
variable {w W W2 : World} {S S2 S' : Nat → Prop}
theorem Kept.refl (w : World) (S : Nat → Prop) : Kept w w S := ⟨Nat.le_refl _, fun _ _ _ => rfl⟩
theorem Kept.of_below (h : Below w.heap.size w W) (S : Nat → Prop) : Kept w W S := ⟨h.size, fun i hi _ => h.block i hi⟩
theorem Kept.mono (h : Kept w W S) (hs : ∀ k, S k → S' k) : Kept w W S' := ⟨h.1, fun i hi hn => h.2 i hi (fun hk => hn (hs i hk))⟩
theorem Kept.then_ (h : Kept w W S) (k : Kept W W2 S2) (hs : ∀ k, S2 k → S k ∨ w.heap.size ≤ k) : Kept w W2 S :=
  ⟨Nat.le_trans h.1 k.1, fun i hi hn => (k.2 i (Nat.lt_of_lt_of_le hi h.1) (fun h2 => (hs i h2).elim hn (fun h3 => by omega))).trans (h.2 i hi hn)⟩
theorem Kept.below (h : Kept w W S) (hb : Below W.heap.size W W2) : Kept w W2 S := h.then_ (Kept.of_below hb (fun _ => False)) (fun _ hk => hk.elim)
theorem Kept.alloc (h : Kept w W S) (o : Obj) : Kept w (W.alloc o) S := h.below (below_alloc (Below.refl _ _) o)
theorem Kept.drew (h : Kept w W S) : Kept w W.drew S := h
theorem Kept.drewN (h : Kept w W S) (m : Nat) : Kept w (W.drewN m) S := h
theorem Kept.setCell (h : Kept w W S) {p : Addr} (hp : S p.block ∨ w.heap.size ≤ p.block) (u : Value) : Kept w (W.setCell p u) S :=
  h.then_ (S2 := fun k => k = p.block) ⟨by simp [World.setCell], fun i _ hn => Below.heap_setCell W p u i hn⟩ (fun k hk => by rw [hk]; exact hp)
end
end Go.Proofs.YtaaipbhfikefaaaDoorW.PrintWords
end

section
namespace Go.Proofs.YtaaipbhfikefaaaDoorW.PrintWords
open Go.RowKit
/-- P holds in W and in every world that has W's blocks of ok. -/
def Foot (P : World → Prop) (W : World) (ok : Nat → Prop) : Prop := ∀ W' : World, (∀ k, ok k → k < W.heap.size → W'.heap[k]? = W.heap[k]?) → P W'
theorem heap_lt {W W1 : World} {k : Nat} (h : W1.heap[k]? = W.heap[k]?) (hlt : k < W.heap.size) : k < W1.heap.size := by
  rw [Array.getElem?_eq_getElem hlt] at h
  exact (Array.getElem?_eq_some_iff.1 h).1
namespace Foot
variable {P Q : World → Prop} {W W1 : World} {ok ok' : Nat → Prop}
theorem mono (h : Foot P W ok) (hok : ∀ k, ok k → ok' k) : Foot P W ok' := fun W' hW => h W' (fun k hk hlt => hW k (hok k hk) hlt)
theorem step (h : Foot P W ok) (hm : ∀ k, ok k → k < W.heap.size → W1.heap[k]? = W.heap[k]?) : Foot P W1 ok := fun W' hW => h W' (fun k hk hlt => (hW k hk (heap_lt (hm k hk hlt) hlt)).trans (hm k hk hlt))
theorem imp (h : Foot P W ok) (hi : ∀ W', P W' → Q W') : Foot Q W ok := fun W' hW => hi W' (h W' hW)
end Foot
namespace Kd
/-- A row that is only read: what it leads to lies in ok. -/
def F {α : Type} (d : Kd α) (W : World) (ok : Nat → Prop) (A : Option Addr) (n : Nat) (xs : List α) : Prop := Foot (fun W => d.C W A n xs) W ok
/-- An element's cells: what they lead to lies in ok. -/
def FK {α : Type} (d : Kd α) (W : World) (ok : Nat → Prop) (x : α) (c : List Value) : Prop := Foot (fun W => d.K W x c) W ok
end Kd
end Go.Proofs.YtaaipbhfikefaaaDoorW.PrintWords
end

section
namespace Go.Proofs.YtaaipbhfikefaaaDoorW.PrintWords
open Go.RowKit
namespace Kd
section
variable {α : Type} {d : Kd α} {e base n cc g : Nat} {ok ok' okp S : Nat → Prop} {w w1 W W1 : World} {A : Option Addr} {u v v1 : Value} {xs : List α} {x : α} {c : List Value}
/-- A row of elements (type e) of the call's own; what the elements lead to is only read, and is not this row. -/
def N {α : Type} (d : Kd α) (e : Nat) (w : World) (base : Nat) (ok : Nat → Prop) (v : Value) (xs : List α) : Prop :=
  (∀ k, v.ownBlock = some k → ok k) ∧ ∃ rows : List (List Value), rows.length = xs.length ∧ (raw d.sz).R e w base (fun k => some k = v.ownBlock) v rows ∧ ∀ (j : Nat) (x : α) (c : List Value), xs[j]? = some x → rows[j]? = some c → FK d w (fun k => ok k ∧ some k ≠ v.ownBlock) x c
end
end Kd
end Go.Proofs.YtaaipbhfikefaaaDoorW.PrintWords
end

section
namespace Go.Proofs.YtaaipbhfikefaaaDoorW.PrintWords
open Go.RowKit
/-- The greater of two whole numbers, as Go's max tells it. -/
def mx (a b : Int) : Int := if a < b then b else a
/-- A shift to the right: a count beyond the width leaves the sign. -/
def shr (k : IntKind) (x y : Int) : Int := x / 2 ^ min y.toNat k.bits
end Go.Proofs.YtaaipbhfikefaaaDoorW.PrintWords
namespace Go.Proofs.YtaaipbhfikefaaaDoorW.PrintWords
open Go.RowKit
namespace Kd
/-- A row that is only read, told by its value: its form, its length, what it leads to (in ok). e and base say nothing; they make it as the others are. -/
def V {α : Type} (d : Kd α) (_e : Nat) (W : World) (_base : Nat) (ok : Nat → Prop) (v : Value) (xs : List α) : Prop := ∃ A c, v = .slice A xs.length c ∧ xs.length ≤ c ∧ F d W ok A xs.length xs
end Kd
end Go.Proofs.YtaaipbhfikefaaaDoorW.PrintWords
end

section
namespace Go.Proofs.YtaaipbhfikefaaaDoorW.PrintLast
open Go.Proofs.YtaaipbhfikefaaaDoorW.PrintWords (Aside0)
def needsOf (md : Region.Mode) (o : Oper) : List Nat := (o.after.toList.filter (fun e => Region.binds md e)).map (fun e => e.on)
def clashOf (md : Region.Mode) (ops : Array Oper) (i : Nat) (oi : Oper) : List Nat := (List.range ops.size).filter fun j => !(j == i) && match ops[j]? with
  | some oj => !(oj.after.any (fun e => Region.binds md e && e.on == i) || oi.apart ops oj)
  | none => false
/-- No select in it; for each operation: what must have come up before it, and what may not come up behind it if it is taken first. -/
def rtab (md : Region.Mode) (ops : Array Oper) : Bool × List (List Nat × List Nat) := (Region.noSelect ops, (List.range ops.size).map fun i => match ops[i]? with
  | some o => (needsOf md o, clashOf md ops i o)
  | none => ([], []))
def readyAt (T : List (List Nat × List Nat)) (l : List Bool) (i : Nat) : Bool := !l.getD i true && match T[i]? with
  | some r => r.1.all (fun j => l.getD j false)
  | none => false
def readyT (T : List (List Nat × List Nat)) (l : List Bool) : List Nat := (List.range T.length).filter (readyAt T l)
def freeT (T : List (List Nat × List Nat)) (l : List Bool) (i : Nat) : Bool := match T[i]? with
  | some r => r.2.all (fun j => l.getD j true)
  | none => false
def closedT (T : List (List Nat × List Nat)) (l : List Bool) : Bool := (List.range T.length).all fun j => !l.getD j false || match T[j]? with
  | some r => r.1.all (fun k => l.getD k false)
  | none => true
def reachT (T : List (List Nat × List Nat)) (i : Nat) : Nat → Nat → Bool
  | 0, _ => false
  | fuel + 1, d => match T[d]? with
    | some r => r.1.any fun j => j == i || reachT T i fuel j
    | none => false
def lastT (T : List (List Nat × List Nat)) (l : List Bool) (ds : List Nat) (i : Nat) : Bool := ds.all fun d => l.getD d true || reachT T i T.length d
section
variable {md : Region.Mode} {ops : Array Oper} {T : Bool × List (List Nat × List Nat)} {l l' li lj lk : Array Bool} {ds : List Nat} {i j k : Nat}
theorem gd (l : Array Bool) (j : Nat) (b : Bool) : l.getD j b = l.toList.getD j b := by simp [Array.getD_eq_getD_getElem?, List.getD_eq_getElem?_getD]
theorem needs_all (o : Oper) (p : Nat → Bool) : o.after.all (fun e => !Region.binds md e || p e.on) = (needsOf md o).all p := by
  unfold needsOf
  rw [← Array.all_toList]
  induction o.after.toList with
  | nil => rfl
  | cons e r ih =>
    rw [List.all_cons, ih, List.filter_cons]
    cases h : Region.binds md e <;> simp
theorem needs_any (o : Oper) (p : Nat → Bool) : o.after.any (fun e => Region.binds md e && p e.on) = (needsOf md o).any p := by
  unfold needsOf
  rw [← Array.any_toList]
  induction o.after.toList with
  | nil => rfl
  | cons e r ih =>
    rw [List.any_cons, ih, List.filter_cons]
    cases h : Region.binds md e <;> simp
theorem rtab_length : (rtab md ops).2.length = ops.size := by simp [rtab]
theorem rtab_some {o : Oper} (h : ops[i]? = some o) : (rtab md ops).2[i]? = some (needsOf md o, clashOf md ops i o) := by
  have hi := (Array.getElem?_eq_some_iff.1 h).1
  unfold rtab
  rw [List.getElem?_map, List.getElem?_range hi, Option.map_some, h]
theorem rtab_none (h : ops[i]? = none) : (rtab md ops).2[i]? = none := by
  have hi : ops.size ≤ i := Array.getElem?_eq_none_iff.1 h
  exact List.getElem?_eq_none (by rw [rtab_length]; exact hi)
theorem readyAt_eq : readyAt (rtab md ops).2 l.toList i = (!l.getD i true && ((ops[i]?).map (·.after.all fun e => !Region.binds md e || l.getD e.on false)).getD false) := by
  unfold readyAt
  rw [gd]
  cases h : ops[i]? with
  | none => rw [rtab_none h]; rfl
  | some o =>
    rw [rtab_some h]
    simp only [Option.map_some, Option.getD_some]
    rw [← needs_all]
    simp only [gd]
theorem ready_eq : Region.ready md ops l = readyT (rtab md ops).2 l.toList := by
  unfold Region.ready readyT
  rw [rtab_length]
  refine List.filter_congr (fun i _ => ?_)
  rw [readyAt_eq]
theorem free_eq : Region.free md ops l i = freeT (rtab md ops).2 l.toList i := by
  unfold Region.free freeT
  cases h : ops[i]? with
  | none => rw [rtab_none h]
  | some oi =>
    rw [rtab_some h]
    simp only [clashOf]
    rw [List.all_filter]
    congr 1
    funext j
    rw [gd]
    cases hj : ops[j]? with
    | none => cases (j == i) <;> cases (l.toList.getD j true) <;> simp
    | some oj =>
      cases (j == i) <;> cases (l.toList.getD j true) <;> cases (oj.after.any (fun e => Region.binds md e && e.on == i) || oi.apart ops oj) <;> simp_all
theorem closed_eq : Region.closedB md ops l = closedT (rtab md ops).2 l.toList := by
  unfold Region.closedB closedT
  rw [rtab_length]
  congr 1
  funext j
  rw [gd]
  cases h : ops[j]? with
  | none => rw [rtab_none h]
  | some o =>
    rw [rtab_some h]
    simp only
    rw [← needs_all]
    simp only [gd]
theorem reach_eq : ∀ (fuel d : Nat), Region.reachB md ops i fuel d = reachT (rtab md ops).2 i fuel d
  | 0, _ => rfl
  | fuel + 1, d => by
    unfold Region.reachB reachT
    cases h : ops[d]? with
    | none => rw [rtab_none h]
    | some o =>
      rw [rtab_some h]
      simp only
      rw [← needs_any]
      congr 1
      funext e
      rw [reach_eq fuel]
theorem last_eq : Region.lastB md ops l ds i = lastT (rtab md ops).2 l.toList ds i := by
  unfold Region.lastB lastT
  rw [rtab_length]
  congr 1
  funext d
  rw [gd, reach_eq]
theorem readyAt_mem (h : readyAt T.2 l.toList i = true) (hT : rtab md ops = T) : (Region.ready md ops l).contains i = true := by
  subst hT
  rw [ready_eq]
  unfold readyT
  rw [List.contains_iff_mem, List.mem_filter, List.mem_range]
  refine ⟨?_, h⟩
  unfold readyAt at h
  rw [Bool.and_eq_true] at h
  cases hq : (rtab md ops).2[i]? with
  | none => rw [hq] at h; simp at h
  | some r => exact (List.getElem?_eq_some_iff.1 hq).1
theorem set_of (h : (l.toList.set i true == l'.toList) = true) : (l.setIfInBounds i true == l') = true := by
  rw [beq_iff_eq] at h ⊢
  apply Array.ext'
  rw [Array.toList_setIfInBounds]
  exact h
def anyT (T : Bool × List (List Nat × List Nat)) (l l' : List Bool) (i : Nat) : Bool := T.1 && freeT T.2 l i && readyAt T.2 l i && (l.set i true == l')
/-- pure_'s condition out of the table. -/
theorem any_of (hT : rtab md ops = T) (h : anyT T l.toList l'.toList i = true) : anyB md ops l l' i = true := by
  simp only [anyT, Bool.and_eq_true] at h
  obtain ⟨⟨⟨h1, h2⟩, h3⟩, h4⟩ := h
  have h5 := readyAt_mem h3 hT
  have h6 := set_of h4
  subst hT
  simp only [anyB, Bool.and_eq_true]
  exact ⟨⟨⟨h1, by rw [free_eq]; exact h2⟩, h5⟩, h6⟩
def takeT (T : Bool × List (List Nat × List Nat)) (ds : List Nat) (l l' : List Bool) (i : Nat) : Bool := T.1 && freeT T.2 l i && readyAt T.2 l i && closedT T.2 l && lastT T.2 l ds i && (l.set i true == l')
/-- take_'s. -/
theorem take_of (hT : rtab md ops = T) (h : takeT T ds l.toList l'.toList i = true) : takeB md ops ds l l' i = true := by
  simp only [takeT, Bool.and_eq_true] at h
  obtain ⟨⟨⟨⟨⟨h1, h2⟩, h3⟩, h4⟩, h5⟩, h6⟩ := h
  have h7 := readyAt_mem h3 hT
  have h8 := set_of h6
  subst hT
  simp only [takeB, Bool.and_eq_true]
  exact ⟨⟨⟨⟨⟨h1, by rw [free_eq]; exact h2⟩, h7⟩, by rw [closed_eq]; exact h4⟩, by rw [last_eq]; exact h5⟩, h8⟩
/-- one_'s and last_'s. -/
theorem one_of (hT : rtab md ops = T) (h : (readyT T.2 l.toList == [i] && l.toList.set i true == l'.toList) = true) : readyB md ops l l' i = true := by
  simp only [Bool.and_eq_true] at h
  obtain ⟨h1, h2⟩ := h
  subst hT
  simp only [readyB, Bool.and_eq_true]
  exact ⟨by rw [ready_eq]; exact h1, set_of h2⟩
/-- done_'s. -/
theorem done_of (hT : rtab md ops = T) (h : (readyT T.2 l.toList == []) = true) : (Region.ready md ops l == []) = true := by
  subst hT
  rw [ready_eq]
  exact h
/-- What d waits for, as_ bits: told in the table (B), checked in one pass: each bit is a need of d, or a bit of an earlier need's. -/
def upM (B : List Nat) (d : Nat) : List Nat → Nat
  | [] => 0
  | n :: r => (2 ^ n ||| (if n < d then B.getD n 0 else 0)) ||| upM B d r
def waitsOk (T : List (List Nat × List Nat)) (B : List Nat) : Bool := (List.range T.length).all fun d => match T[d]? with
  | some r => (B.getD d 0 ||| upM B d r.1) == upM B d r.1
  | none => false
theorem upM_bit {B : List Nat} {d i : Nat} : ∀ {ns : List Nat}, (upM B d ns).testBit i = true → ∃ n ∈ ns, n = i ∨ (n < d ∧ (B.getD n 0).testBit i = true)
  | [], h => by simp [upM] at h
  | n :: r, h => by
    unfold upM at h
    rw [Nat.testBit_or, Nat.testBit_or, Bool.or_eq_true, Bool.or_eq_true] at h
    rcases h with (h | h) | h
    · rw [Nat.testBit_two_pow] at h
      exact ⟨n, List.mem_cons_self, .inl (by simpa using h)⟩
    · by_cases hn : n < d
      · rw [if_pos hn] at h
        exact ⟨n, List.mem_cons_self, .inr ⟨hn, h⟩⟩
      · rw [if_neg hn] at h
        simp at h
    · obtain ⟨m, hm, h2⟩ := upM_bit h
      exact ⟨m, List.mem_cons_of_mem _ hm, h2⟩
theorem reach_bit {T : List (List Nat × List Nat)} {B : List Nat} (hB : waitsOk T B = true) : ∀ (fuel d : Nat), d < fuel → d < T.length → (B.getD d 0).testBit i = true → reachT T i fuel d = true
  | 0, d, h, _, _ => by omega
  | fuel + 1, d, h, hd, hb => by
    have h1 := List.all_eq_true.1 hB d (List.mem_range.2 hd)
    cases hr : T[d]? with
    | none => rw [hr] at h1; simp at h1
    | some r =>
      rw [hr] at h1
      simp only [beq_iff_eq] at h1
      have h2 : (upM B d r.1).testBit i = true := by rw [← h1, Nat.testBit_or, hb, Bool.true_or]
      obtain ⟨n, hn, h3⟩ := upM_bit h2
      unfold reachT
      rw [hr]
      simp only
      rw [List.any_eq_true]
      refine ⟨n, hn, ?_⟩
      rcases h3 with rfl | ⟨h4, h5⟩
      · simp
      · rw [reach_bit hB fuel n (by omega) (by omega) h5, Bool.or_true]
def lastW (T : List (List Nat × List Nat)) (B : List Nat) (l : List Bool) (ds : List Nat) (i : Nat) : Bool := ds.all fun d => l.getD d true || (decide (d < T.length) && (B.getD d 0).testBit i)
def takeW (T : Bool × List (List Nat × List Nat)) (B : List Nat) (ds : List Nat) (l l' : List Bool) (i : Nat) : Bool := T.1 && freeT T.2 l i && readyAt T.2 l i && closedT T.2 l && lastW T.2 B l ds i && (l.set i true == l')
/-- take_'s, by the bits. -/
theorem take_ofW {B : List Nat} (hT : rtab md ops = T) (hB : waitsOk T.2 B = true) (h : takeW T B ds l.toList l'.toList i = true) : takeB md ops ds l l' i = true := by
  refine take_of hT ?_
  simp only [takeW, takeT, Bool.and_eq_true] at h ⊢
  obtain ⟨⟨⟨⟨⟨h1, h2⟩, h3⟩, h4⟩, h5⟩, h6⟩ := h
  refine ⟨⟨⟨⟨⟨h1, h2⟩, h3⟩, h4⟩, ?_⟩, h6⟩
  unfold lastW at h5
  unfold lastT
  rw [List.all_eq_true] at h5 ⊢
  intro d hd
  have h7 := h5 d hd
  rw [Bool.or_eq_true, Bool.and_eq_true, decide_eq_true_eq] at h7
  rcases h7 with h7 | ⟨h8, h9⟩
  · rw [h7, Bool.true_or]
  · rw [reach_bit hB _ d h8 h8 h9, Bool.or_true]
theorem with_tabW {P : Program} {Q : Exit → Act → World → Prop} {S : World → Prop} {n : Nat} {a : Act} {w : World} {B : List Nat} (hT : rtab md ops = T) (hB : waitsOk T.2 B = true) (h : Aside0 (rtab md ops = T) → Aside0 (waitsOk T.2 B = true) → wpAnyLast P md ops Q S ds n l a w) : wpAnyLast P md ops Q S ds n l a w := h ⟨hT⟩ ⟨hB⟩
end
/-- The operations of a region, by its number. -/
def opsIn : Code → Nat → Option (Array Oper)
  | .region id ops _, k => if id == k then some ops else none
  | .seq a b, k => match opsIn a k with
    | some o => some o
    | none => opsIn b k
  | .cond _ a b, k => match opsIn a k with
    | some o => some o
    | none => opsIn b k
  | .block _ c, k => opsIn c k
  | .loop c, k => opsIn c k
  | .scope c, k => opsIn c k
  | .rangeFunc _ _ a b, k => match opsIn a k with
    | some o => some o
    | none => opsIn b k
  | _, _ => none
def opsOf (f : Func) (k : Nat) : Array Oper := ((f.body.bind fun c => opsIn c k)).getD #[]
end Go.Proofs.YtaaipbhfikefaaaDoorW.PrintLast
end

section
namespace Go.Proofs.YtaaipbhfikefaaaDoorW.PrintWords
/-- One cell an element. -/
theorem Reps.one {α : Type} {R : α → List Value → Prop} {ps : List α} {cs : List Value} {p : α} {v : Value} (hp : R p [v]) (h : Reps R 1 ps cs) : Reps R 1 (p :: ps) (v :: cs) := by
  refine ⟨by simp [h.1], fun j q hq => ?_⟩
  cases j with
  | zero =>
    simp only [List.getElem?_cons_zero, Option.some.injEq] at hq
    subst hq
    simpa using hp
  | succ j =>
    simp only [List.getElem?_cons_succ] at hq
    have h1 := h.2 j q hq
    simpa [Nat.mul_one] using h1
/-- More cells an element: told apart by the cells' list. -/
theorem Reps.front {α : Type} {R : α → List Value → Prop} {size : Nat} {ps : List α} {cs c all : List Value} {p : α} (hp : R p c) (hc : c.length = size) (h : Reps R size ps cs) (ha : c ++ cs = all) : Reps R size (p :: ps) all := by
  subst ha
  refine ⟨by rw [List.length_append, hc, h.1, List.length_cons, Nat.succ_mul, Nat.add_comm], fun j q hq => ?_⟩
  cases j with
  | zero =>
    simp only [List.getElem?_cons_zero, Option.some.injEq] at hq
    subst hq
    rw [Nat.zero_mul, List.drop_zero, List.take_append_of_le_length (by omega), List.take_of_length_le (by omega)]
    exact hp
  | succ j =>
    simp only [List.getElem?_cons_succ] at hq
    have h1 := h.2 j q hq
    rw [Nat.succ_mul, List.drop_append, List.drop_of_length_le (by rw [hc]; exact Nat.le_add_left _ _), List.nil_append, hc, Nat.add_sub_cancel]
    exact h1
theorem Reps.c2 {α : Type} {R : α → List Value → Prop} {ps : List α} {cs : List Value} {p : α} {va vb : Value} (hp : R p [va, vb]) (h : Reps R 2 ps cs) : Reps R 2 (p :: ps) (va :: vb :: cs) := Reps.front hp rfl h rfl
theorem Reps.c3 {α : Type} {R : α → List Value → Prop} {ps : List α} {cs : List Value} {p : α} {va vb vc : Value} (hp : R p [va, vb, vc]) (h : Reps R 3 ps cs) : Reps R 3 (p :: ps) (va :: vb :: vc :: cs) := Reps.front hp rfl h rfl
theorem Reps.c4 {α : Type} {R : α → List Value → Prop} {ps : List α} {cs : List Value} {p : α} {va vb vc vd : Value} (hp : R p [va, vb, vc, vd]) (h : Reps R 4 ps cs) : Reps R 4 (p :: ps) (va :: vb :: vc :: vd :: cs) := Reps.front hp rfl h rfl
theorem Reps.c5 {α : Type} {R : α → List Value → Prop} {ps : List α} {cs : List Value} {p : α} {va vb vc vd ve : Value} (hp : R p [va, vb, vc, vd, ve]) (h : Reps R 5 ps cs) : Reps R 5 (p :: ps) (va :: vb :: vc :: vd :: ve :: cs) := Reps.front hp rfl h rfl
theorem Reps.c6 {α : Type} {R : α → List Value → Prop} {ps : List α} {cs : List Value} {p : α} {va vb vc vd ve vf : Value} (hp : R p [va, vb, vc, vd, ve, vf]) (h : Reps R 6 ps cs) : Reps R 6 (p :: ps) (va :: vb :: vc :: vd :: ve :: vf :: cs) := Reps.front hp rfl h rfl
end Go.Proofs.YtaaipbhfikefaaaDoorW.PrintWords
end

section
namespace Go.Proofs.YtaaipbhfikefaaaDoor.P
set_option linter.unusedVariables false
set_option linter.unusedSimpArgs false
open Go.RowKit Go.ChangeShapes Go.WideShapes Go.Proofs.YtaaipbhfikefaaaDoorW.PrintWords Go.Proofs.YtaaipbhfikefaaaDoorW.PrintLast Go.Proofs.YtaaipbhfikefaaaDoorW.PrintMore
@[local go_sem] theorem setCell_drewN (w : World) (n : Nat) (a : Addr) (v : Value) : (w.drewN n).setCell a v = (w.setCell a v).drewN n := rfl
/-- A fact that the walk shall not use. -/
structure Aside0 (p : Prop) : Prop where
  out : p
theorem bel_drewN {B : Nat} {w W : World} (h : Below B w W) (n : Nat) : Below B w (W.drewN n) := ⟨h.os, h.tape, h.output, h.size, h.block⟩
theorem bel_two (w : World) (a b : Obj) : Below w.heap.size w ((w.alloc a).alloc b) := ((Below.refl _ _).alloc (Nat.le_refl _) a).alloc (by have := ((Below.refl w.heap.size w).alloc (Nat.le_refl _) a).size; exact this) b
theorem u64w (x : Int) (h0 : 0 ≤ x) (h1 : x < 18446744073709551616) : IntKind.u64.wrap x = x := by
  have : x % 18446744073709551616 = x := by omega
  exact this
theorem three_new (w : World) (a b c : Obj) : (((w.alloc a).alloc b).alloc c).heap[w.heap.size + 1 + 1]? = some c := by
  have h := heap_alloc_new ((w.alloc a).alloc b) c
  have e : ((w.alloc a).alloc b).heap.size = w.heap.size + 1 + 1 := by simp
  rwa [e] at h
theorem bel_three (w : World) (a b c : Obj) : Below w.heap.size w (((w.alloc a).alloc b).alloc c) := (bel_two w a b).alloc (bel_two w a b).size c
theorem bel_set {B : Nat} {w W : World} (h : Below B w W) (a : Addr) (v : Value) (ha : B ≤ a.block) : Below B w (W.setCell a v) := h.setCell ha v
/-- Values put one behind the other into a row. -/
def putA : Array Value → Nat → List Value → Array Value
  | cs, _, [] => cs
  | cs, o, v :: r => putA (cs.setIfInBounds o v) (o + 1) r
theorem setCells_row {g : Nat} {t : TypeId} : ∀ (vs : List Value) (o : Nat) (w : World) (cs : Array Value), w.heap[g]? = some (.cells cs t (0, 0)) → (w.setCells g o vs).heap[g]? = some (.cells (putA cs o vs) t (0, 0))
  | [], _, _, _, h => h
  | v :: r, o, w, cs, h => setCells_row r (o + 1) _ _ (heap_setCell_same w g o cs t v h)
theorem putA_get : ∀ (vs : List Value) (o : Nat) (cs : Array Value) (j : Nat), o + vs.length ≤ cs.size → (putA cs o vs)[j]? = if o ≤ j ∧ j < o + vs.length then vs[j - o]? else cs[j]?
  | [], o, cs, j, h => by
    have : ¬ (o ≤ j ∧ j < o + ([] : List Value).length) := by simp only [List.length_nil]; omega
    rw [if_neg this]; rfl
  | v :: r, o, cs, j, h => by
    simp only [List.length_cons] at h
    rw [putA, putA_get r (o + 1) _ j (by simp; omega)]
    simp only [List.length_cons]
    by_cases h1 : j = o
    · subst h1
      rw [if_neg (by omega), if_pos (by omega)]
      simp only [Nat.sub_self, List.getElem?_cons_zero]
      rw [Array.getElem?_setIfInBounds_self_of_lt (by omega)]
    · rw [Array.getElem?_setIfInBounds_ne (by omega)]
      by_cases h2 : o ≤ j ∧ j < o + (r.length + 1)
      · rw [if_pos (by omega), if_pos h2]
        have e : j - o = (j - (o + 1)) + 1 := by omega
        rw [e, List.getElem?_cons_succ]
      · rw [if_neg (by omega), if_neg h2]
theorem putA_full (vs : List Value) (cs : Array Value) (h : vs.length = cs.size) : putA cs 0 vs = vs.toArray := by
  apply Array.ext_getElem?
  intro j
  rw [putA_get vs 0 cs j (by omega)]
  simp only [Nat.zero_le, true_and, Nat.zero_add, Nat.sub_zero, List.getElem?_toArray]
  by_cases hj : j < vs.length
  · rw [if_pos hj]
  · rw [if_neg hj, Array.getElem?_eq_none (by omega), List.getElem?_eq_none (by omega)]
theorem row_set_all {w : World} {g : Nat} {t : TypeId} {cs vs : Array Value} (hg : w.heap[g]? = some (.cells cs t (0, 0))) (hs : vs.size = cs.size) : (w.setCells g 0 vs.toList).heap[g]? = some (.cells vs t (0, 0)) := by
  have h := setCells_row vs.toList 0 w cs hg
  rw [putA_full _ _ (by simpa using hs)] at h
  simpa using h
theorem bel_setCells {B g : Nat} {w : World} (hg : B ≤ g) : ∀ (vs : List Value) (o : Nat) (W : World), Below B w W → Below B w (W.setCells g o vs)
  | [], _, _, h => h
  | v :: r, o, W, h => bel_setCells hg r (o + 1) _ (h.setCell hg v)
theorem setCells_size (g : Nat) : ∀ (vs : List Value) (o : Nat) (W : World), (W.setCells g o vs).heap.size = W.heap.size
  | [], _, _ => rfl
  | v :: r, o, W => by rw [World.setCells, setCells_size g r]; simp [World.setCell]
theorem setCells_other {g k : Nat} (h : k ≠ g) : ∀ (vs : List Value) (o : Nat) (W : World), (W.setCells g o vs).heap[k]? = W.heap[k]?
  | [], _, _ => rfl
  | v :: r, o, W => by rw [World.setCells, setCells_other h r]; exact heap_setCell_other _ _ _ _ h
theorem run_storeVar_row {P : Program} (ty : TypeId) (ie : TypeInfo) (hie : P.info? ty = some ie) (g : Nat) (t : TypeId) (cs vs : Array Value) (w : World) (hg : w.heap[g]? = some (.cells cs t (0, 0))) (hs : vs.size = cs.size) (hi : cs.size = ie.size)
    (h1 : ∀ v ∈ vs.toList, v.oneCell' = true) : (storeVar ty ⟨g, 0, none⟩ (.agg vs)).run P w = .ok () (w.setCells g 0 vs.toList) := by
  have h := run_storeCells_cells (P := P) g 0 vs.toList 0 w
    (fun k hk => by
      rw [Nat.add_zero, Nat.zero_add, cell_of_row w g k cs t _ hg, Array.getElem?_eq_getElem (by simp at hk; omega)]; rfl)
    (fun k hk => frozen_of_row w g _ cs t hg) h1
  have hti : (typeInfo ty).run P w = .ok ie w := by simp [typeInfo, hie]
  simp [storeVar, Value.cells, sizeOf, hti, hs, hi, h, Result.andThen]
theorem wpList_store_row {P : Program} {ops : Array Oper} {rest : List Oper} {o : Oper} {a : Act} {w : World} {Q : Exit → Act → World → Prop} (hgd : o.guard = none) (ty : TypeId) (x y : Operand) (ho : o.op = .store ty x y)
    (g : Nat) (hx : a.eval x = .pointer (some ⟨g, 0, none⟩)) (vs : Array Value) (hy : a.eval y = .agg vs) (ie : TypeInfo) (hie : P.info? ty = some ie) (t : TypeId) (cs : Array Value) (hg : w.heap[g]? = some (.cells cs t (0, 0)))
    (hs : vs.size = cs.size) (hi : cs.size = ie.size) (h1 : ∀ v ∈ vs.toList, v.oneCell' = true)
    (h : wpList P ops Q rest (a.put o.dst undef) (w.setCells g 0 vs.toList)) : wpList P ops Q (o :: rest) a w := by
  refine wpList_plain hgd fun K hK => ?_
  unfold Oper.wp execOp
  simp only [ho, hx, hy, Instr.storeAt, Instr.sureAddr, Sem.run_bind, Sem.run_pure, Result.andThen_ok, run_storeVar_row ty ie hie g t cs vs w hg hs hi h1]
  exact hK _ _ h
/-- A row of n numbers of a kind. -/
def FR (k : IntKind) (n : Nat) (f : Nat → Int) : Array Value := ((List.range n).map fun i => Value.int k (f i)).toArray
theorem FR_size (k : IntKind) (n : Nat) (f : Nat → Int) : (FR k n f).size = n := by simp [FR]
theorem FR_at (k : IntKind) (n : Nat) (f : Nat → Int) (i : Nat) (h : i < n) : (FR k n f)[i]? = some (.int k (f i)) := by simp [FR, h]
theorem FR_out (k : IntKind) (n : Nat) (f : Nat → Int) (i : Nat) (h : ¬ i < n) : (FR k n f)[i]? = none := by
  apply Array.getElem?_eq_none; rw [FR_size]; omega
theorem FR_one (k : IntKind) (n : Nat) (f : Nat → Int) : ∀ v ∈ (FR k n f).toList, v.oneCell' = true := by
  intro v hv
  simp only [FR, List.mem_map] at hv
  obtain ⟨i, _, rfl⟩ := hv
  rfl
/-- A row with one number turned. -/
def upd (f : Nat → Int) (i : Nat) (x : Int) : Nat → Int := fun j => if j = i then x else f j
theorem upd_same (f : Nat → Int) (i : Nat) (x : Int) : upd f i x i = x := if_pos rfl
theorem upd_other (f : Nat → Int) (i j : Nat) (x : Int) (h : j ≠ i) : upd f i x j = f j := if_neg h
theorem FR_congr (k : IntKind) (n : Nat) (f f' : Nat → Int) (h : ∀ i, i < n → f i = f' i) : FR k n f = FR k n f' := by
  unfold FR
  congr 1
  apply List.map_congr_left
  intro i hi
  rw [h i (List.mem_range.1 hi)]
theorem FR_set (k : IntKind) (n : Nat) (f : Nat → Int) (i : Nat) (x : Int) (h : i < n) : (FR k n f).setIfInBounds i (.int k x) = FR k n (upd f i x) := by
  apply Array.ext_getElem?
  intro j
  by_cases hj : j = i
  · subst hj
    rw [Array.getElem?_setIfInBounds_self_of_lt (by rw [FR_size]; exact h), FR_at _ _ _ _ h, upd_same]
  · rw [Array.getElem?_setIfInBounds_ne (fun e => hj e.symm)]
    by_cases hn : j < n
    · rw [FR_at _ _ _ _ hn, FR_at _ _ _ _ hn, upd_other _ _ _ _ hj]
    · rw [FR_out _ _ _ _ hn, FR_out _ _ _ _ hn]
/-- A block that is a row of numbers. -/
def Row (w : World) (g : Nat) (k : IntKind) (n : Nat) (f : Nat → Int) (t : TypeId) : Prop := w.heap[g]? = some (.cells (FR k n f) t (0, 0))
theorem Row.cell {w : World} {g : Nat} {k : IntKind} {n : Nat} {f : Nat → Int} {t : TypeId} (h : Row w g k n f t) (i : Nat) (hi : i < n) : w.cell? ⟨g, i, none⟩ = some (.int k (f i)) := by
  rw [cell_of_row w g i _ t _ h, FR_at _ _ _ _ hi]
theorem Row.fro {w : World} {g : Nat} {k : IntKind} {n : Nat} {f : Nat → Int} {t : TypeId} (h : Row w g k n f t) (i : Nat) : w.frozen? ⟨g, i, none⟩ = false := frozen_of_row w g i _ t h
theorem Row.set {w : World} {g : Nat} {k : IntKind} {n : Nat} {f : Nat → Int} {t : TypeId} (h : Row w g k n f t) (i : Nat) (x : Int) (hi : i < n) : Row (w.setCell ⟨g, i, none⟩ (.int k x)) g k n (upd f i x) t := by
  have := heap_setCell_same w g i _ t (.int k x) h
  rwa [FR_set _ _ _ _ _ hi] at this
theorem Row.other {w : World} {g : Nat} {k : IntKind} {n : Nat} {f : Nat → Int} {t : TypeId} (h : Row w g k n f t) (a : Addr) (v : Value) (ha : g ≠ a.block) : Row (w.setCell a v) g k n f t :=
  (heap_setCell_other w a g v ha).trans h
theorem Row.lt {w : World} {g : Nat} {k : IntKind} {n : Nat} {f : Nat → Int} {t : TypeId} (h : Row w g k n f t) : g < w.heap.size := (Array.getElem?_eq_some_iff.1 h).1
theorem Row.alloc {w : World} {g : Nat} {k : IntKind} {n : Nat} {f : Nat → Int} {t : TypeId} (h : Row w g k n f t) (o : Obj) : Row (w.alloc o) g k n f t := by
  have hlt := h.lt
  have e : (w.alloc o).heap[g]? = w.heap[g]? := Below.heap_alloc w o g hlt
  exact e.trans h
theorem Row.new (w : World) (k : IntKind) (n : Nat) (f : Nat → Int) (t : TypeId) : Row (w.alloc (.cells (FR k n f) t)) w.heap.size k n f t := heap_alloc_new w _
theorem Row.below {w w' : World} {B g : Nat} {k : IntKind} {n : Nat} {f : Nat → Int} {t : TypeId} (h : Row w g k n f t) (hb : Below B w w') (hg : g < B) : Row w' g k n f t := (hb.block g hg).trans h
theorem Row.drewN {w : World} {g : Nat} {k : IntKind} {n : Nat} {f : Nat → Int} {t : TypeId} (h : Row w g k n f t) (m : Nat) : Row (w.drewN m) g k n f t := h
theorem Row.all {w : World} {g : Nat} {k : IntKind} {n : Nat} {f f' : Nat → Int} {t : TypeId} (h : Row w g k n f t) : Row (w.setCells g 0 (FR k n f').toList) g k n f' t := row_set_all h (by rw [FR_size, FR_size])
theorem Row.cells_other {w : World} {g g' : Nat} {k : IntKind} {n : Nat} {f : Nat → Int} {t : TypeId} (h : Row w g k n f t) (vs : List Value) (hg : g ≠ g') : Row (w.setCells g' 0 vs) g k n f t := (setCells_other hg vs 0 w).trans h
/-- A whole row of numbers, read. -/
theorem step_load {P : Program} {ops : Array Oper} {rest : List Oper} {o : Oper} {a : Act} {w : World} {Q : Exit → Act → World → Prop} {k : IntKind} {n : Nat} {f : Nat → Int} {t ty : TypeId} {x : Operand} {g : Nat} {d : TypeDesc}
    (hr : Row w g k n f t) (hu : P.underlying ty = some d) (hi : (P.info? ty).map (·.size) = some n) (hd : (match d with | .struct _ | .array _ _ => true | _ => false) = true) (hgd : o.guard = none) (ho : o.op = .load ty x) (hx : a.eval x = .pointer (some ⟨g, 0, none⟩))
    (h : wpList P ops Q rest (a.put o.dst (.agg (FR k n f))) w) : wpList P ops Q (o :: rest) a w :=
  wpList_load_row hgd ty x ho g hx t (FR k n f) (0, 0) d hr hu hd (by rw [FR_size]; exact hi) h
/-- A whole row of numbers, stored. -/
theorem step_store {P : Program} {ops : Array Oper} {rest : List Oper} {o : Oper} {a : Act} {w : World} {Q : Exit → Act → World → Prop} {k : IntKind} {n : Nat} {f : Nat → Int} {t ty : TypeId} {x y : Operand} {g : Nat}
    (f' : Nat → Int) (hr : Row w g k n f t) (hi : (P.info? ty).map (·.size) = some n) (hgd : o.guard = none) (hdst : o.dst = none) (ho : o.op = .store ty x y) (hx : a.eval x = .pointer (some ⟨g, 0, none⟩)) (hy : a.eval y = .agg (FR k n f'))
    (h : wpList P ops Q rest a (w.setCells g 0 (FR k n f').toList)) : wpList P ops Q (o :: rest) a w := by
  obtain ⟨ie, hie, hs⟩ : ∃ ie, P.info? ty = some ie ∧ ie.size = n := by
    cases he : P.info? ty with
    | none => rw [he] at hi; cases hi
    | some ie => rw [he] at hi; exact ⟨ie, rfl, Option.some.inj hi⟩
  exact wpList_store_row hgd ty x y ho g hx (FR k n f') hy ie hie t (FR k n f) hr (by rw [FR_size, FR_size]) (by rw [FR_size, hs]) (FR_one k n f') (by rw [hdst]; exact h)
/-- The world behind a whole row's store. -/
structure Stored (w w' : World) (g : Nat) : Prop where
  other : ∀ k, k ≠ g → w'.heap[k]? = w.heap[k]?
  size : w'.heap.size = w.heap.size
  bel : ∀ B W, B ≤ g → Below B W w → Below B W w'
theorem Row.stored {w w' : World} {g g' : Nat} {k : IntKind} {n : Nat} {f : Nat → Int} {t : TypeId} (h : Row w g k n f t) (hs : Stored w w' g') (hg : g ≠ g') : Row w' g k n f t := (hs.other g hg).trans h
theorem step_storeG {P : Program} {ops : Array Oper} {rest : List Oper} {o : Oper} {a : Act} {w : World} {Q : Exit → Act → World → Prop} {k : IntKind} {n : Nat} {f : Nat → Int} {t ty : TypeId} {x y : Operand} {g : Nat}
    (f' : Nat → Int) (hr : Row w g k n f t) (hi : (P.info? ty).map (·.size) = some n) (hgd : o.guard = none) (hdst : o.dst = none) (ho : o.op = .store ty x y) (hx : a.eval x = .pointer (some ⟨g, 0, none⟩)) (hy : a.eval y = .agg (FR k n f'))
    (h : ∀ w', Stored w w' g → Row w' g k n f' t → wpList P ops Q rest a w') : wpList P ops Q (o :: rest) a w :=
  step_store f' hr hi hgd hdst ho hx hy (h _ ⟨fun k hk => setCells_other hk _ _ _, setCells_size g _ _ _, fun B W hB hb => bel_setCells hB _ _ _ hb⟩ hr.all)
/-- The end of a function whose result is a row. -/
theorem row_results {P : Program} {fn : Func} {p : Tmp} {ty : TypeId} (h : fn.results = #[.cell p ty]) {tmps : Array Value} {w : World} {g : Nat} {k : IntKind} {n : Nat} {f : Nat → Int} {t : TypeId} {d : TypeDesc}
    (hr : Row w g k n f t) (hp : tmps.getD p undef = .pointer (some ⟨g, 0, none⟩)) (hu : P.underlying ty = some d) (hd : (match d with | .struct _ | .array _ _ => true | _ => false) = true) (hi : (P.info? ty).map (·.size) = some n) :
    (results fn tmps).run P w = .ok (.agg (FR k n f)) w :=
  results_cell_row h tmps w g t (FR k n f) (0, 0) d hp hr hu hd (by rw [FR_size]; exact hi)
theorem w64 (n : Int) (h : -9223372036854775808 ≤ n ∧ n ≤ 9223372036854775807) : wrap64 n = n := by unfold wrap64; omega
theorem meas_up (n : Nat) (i : Nat) (h : i < n) : n - (intOf (Value.int IntKind.i64 ((i : Int) + 1))).toNat < n - (intOf (Value.int IntKind.i64 (i : Int))).toNat := by
  have e1 : intOf (Value.int IntKind.i64 ((i : Int) + 1)) = (i : Int) + 1 := rfl
  have e2 : intOf (Value.int IntKind.i64 (i : Int)) = (i : Int) := rfl
  rw [e1, e2]; omega
/-- A string's bytes as numbers. -/
def sB (s : ByteArray) (i : Nat) : Int := ((s[i]?.getD 0).toNat : Int)
theorem sB_at (s : ByteArray) (i : Nat) (h : i < s.size) : ∃ c : UInt8, (∀ h : i < s.size, s[i]'h = c) ∧ (c.toNat : Int) = sB s i := by
  have e : s[i]? = some s[i] := getElem?_pos s i h
  exact ⟨s[i], fun _ => rfl, by unfold sB; rw [e]; rfl⟩
theorem i64w (x : Int) (h : -9223372036854775808 ≤ x ∧ x ≤ 9223372036854775807) : IntKind.i64.wrap x = x := by
  have e : IntKind.i64.wrap x = if x % 18446744073709551616 ≥ 9223372036854775808 then x % 18446744073709551616 - 18446744073709551616 else x % 18446744073709551616 := by
    unfold IntKind.wrap; simp [IntKind.bits, IntKind.signed]
  rw [e]; split <;> omega
theorem row_eq {w : World} {g : Nat} {k : IntKind} {n : Nat} {f f' : Nat → Int} {t : TypeId} (h : Row w g k n f t) (e : ∀ i, i < n → f i = f' i) : Row w g k n f' t := by
  unfold Row; rw [← FR_congr k n f f' e]; exact h
theorem part_step {w : World} {g : Nat} {k : IntKind} {n : Nat} {t : TypeId} {F G : Nat → Int} {i : Nat} {a : Addr} (h : Row w g k n (fun j => if j < i then F j else G j) t) (hi : i < n) :
    Row (w.setCell ⟨g, i, none⟩ (.int k (F i))) g k n (fun j => if j < i + 1 then F j else G j) t :=
  row_eq (h.set i (F i) hi) (fun j hj => by
    unfold upd
    by_cases hji : j = i
    · subst hji; rw [if_pos rfl, if_pos (by omega)]
    · rw [if_neg hji]
      show (if j < i then F j else G j) = _
      by_cases hjl : j < i
      · rw [if_pos hjl, if_pos (by omega)]
      · rw [if_neg hjl, if_neg (by omega)])
theorem toNat2 (i : Nat) : (2 * (i : Int)).toNat = 2 * i := by omega
theorem toNat21 (i : Nat) : (2 * (i : Int) + 1).toNat = 2 * i + 1 := by omega
/-- The number that n digits are, the lowest first. -/
def val (B : Int) (f : Nat → Int) : Nat → Int
  | 0 => 0
  | n + 1 => val B f n + f n * B ^ n
/-- A number's digit. -/
def dig (B N : Int) (i : Nat) : Int := N / B ^ i % B
theorem val_congr (B : Int) (f g : Nat → Int) : ∀ n, (∀ i, i < n → f i = g i) → val B f n = val B g n
  | 0, _ => rfl
  | n + 1, h => by rw [val, val, val_congr B f g n (fun i hi => h i (by omega)), h n (by omega)]
theorem val_add (B : Int) (f g : Nat → Int) : ∀ n, val B (fun i => f i + g i) n = val B f n + val B g n
  | 0 => rfl
  | n + 1 => by
    have := val_add B f g n
    simp only [val, this]; grind
theorem val_sub (B : Int) (f g : Nat → Int) : ∀ n, val B (fun i => f i - g i) n = val B f n - val B g n
  | 0 => rfl
  | n + 1 => by
    have := val_sub B f g n
    simp only [val, this]; grind
theorem pow_pos' (B : Int) (hB : 0 < B) (n : Nat) : 0 < B ^ n := Int.pow_pos hB
theorem val_b (B : Int) (hB : 0 < B) (f : Nat → Int) : ∀ n, (∀ i, i < n → 0 ≤ f i ∧ f i < B) → 0 ≤ val B f n ∧ val B f n < B ^ n
  | 0, _ => by simp [val]
  | n + 1, h => by
    have h1 := val_b B hB f n (fun i hi => h i (by omega))
    have h2 := h n (by omega)
    have h3 := pow_pos' B hB n
    have h4 : 0 ≤ f n * B ^ n := Int.mul_nonneg h2.1 (by omega)
    have h5 : (f n + 1) * B ^ n ≤ B * B ^ n := Int.mul_le_mul_of_nonneg_right (by omega) (by omega)
    rw [val, Int.pow_succ]
    have h6 : (f n + 1) * B ^ n = f n * B ^ n + B ^ n := by grind
    have h7 : B ^ n * B = B * B ^ n := by grind
    omega
/-- The carry into digit i. -/
def cy (B : Int) (f : Nat → Int) : Nat → Int
  | 0 => 0
  | i + 1 => (f i + cy B f i) / B
theorem cy_val (B : Int) (hB : 0 < B) (f : Nat → Int) : ∀ n, val B (fun i => (f i + cy B f i) % B) n + cy B f n * B ^ n = val B f n
  | 0 => by simp [val, cy]
  | n + 1 => by
    have h1 := cy_val B hB f n
    have h2 := Int.emod_add_mul_ediv (f n + cy B f n) B
    have e : cy B f (n + 1) = (f n + cy B f n) / B := rfl
    rw [val, e, Int.pow_succ]
    show val B (fun i => (f i + cy B f i) % B) n + (f n + cy B f n) % B * B ^ n + (f n + cy B f n) / B * (B ^ n * B) = val B f n + f n * B ^ n
    grind
theorem cy_div (B : Int) (hB : 0 < B) (f : Nat → Int) (n : Nat) : cy B f n = val B f n / B ^ n ∧ val B (fun i => (f i + cy B f i) % B) n = val B f n % B ^ n := by
  have h1 := cy_val B hB f n
  have h2 := val_b B hB (fun i => (f i + cy B f i) % B) n (fun i _ => ⟨Int.emod_nonneg _ (by omega), Int.emod_lt_of_pos _ hB⟩)
  have h3 := pow_pos' B hB n
  have e : val B f n = val B (fun i => (f i + cy B f i) % B) n + B ^ n * cy B f n := by rw [← h1]; grind
  rw [e]
  constructor
  · rw [Int.add_mul_ediv_left _ _ (by omega), Int.ediv_eq_zero_of_lt h2.1 h2.2, Int.zero_add]
  · rw [Int.add_mul_emod_self_left, Int.emod_eq_of_lt h2.1 h2.2]
theorem val_dig (B : Int) (hB : 0 < B) (N : Int) : ∀ n, val B (dig B N) n = N % B ^ n
  | 0 => by simp [val, Int.emod_one]
  | n + 1 => by
    rw [val, val_dig B hB N n, Int.pow_succ]
    have h1 := Int.emod_add_mul_ediv N (B ^ n)
    have h2 := Int.emod_add_mul_ediv (N / B ^ n) B
    have h3 := pow_pos' B hB n
    have b1 := Int.emod_nonneg N (show B ^ n ≠ 0 by omega)
    have b2 := Int.emod_lt_of_pos N h3
    have b3 := Int.emod_nonneg (N / B ^ n) (show B ≠ 0 by omega)
    have b4 := Int.emod_lt_of_pos (N / B ^ n) hB
    unfold dig
    have e : N = (N % B ^ n + N / B ^ n % B * B ^ n) + (B ^ n * B) * (N / B ^ n / B) := by grind
    have b5 : 0 ≤ N / B ^ n % B * B ^ n := Int.mul_nonneg b3 (by omega)
    have b6 : (N / B ^ n % B + 1) * B ^ n ≤ B * B ^ n := Int.mul_le_mul_of_nonneg_right (by omega) (by omega)
    have b7 : (N / B ^ n % B + 1) * B ^ n = N / B ^ n % B * B ^ n + B ^ n := by grind
    have b8 : B ^ n * B = B * B ^ n := by grind
    have e2 : N % (B ^ n * B) = (N % B ^ n + N / B ^ n % B * B ^ n) := by
      conv => lhs; rw [e]
      rw [Int.add_mul_emod_self_left, Int.emod_eq_of_lt (by omega) (by omega)]
    rw [e2]
theorem dig_b (B : Int) (hB : 0 < B) (N : Int) (i : Nat) : 0 ≤ dig B N i ∧ dig B N i < B := ⟨Int.emod_nonneg _ (by omega), Int.emod_lt_of_pos _ hB⟩
/-- Right digits are the number's digits. -/
theorem dig_val (B : Int) (hB : 0 < B) (f : Nat → Int) : ∀ n, (∀ i, i < n → 0 ≤ f i ∧ f i < B) → ∀ i, i < n → f i = dig B (val B f n) i
  | 0, _ => fun i hi => absurd hi (by omega)
  | n + 1, h => fun i hi => by
    have h1 := val_b B hB f n (fun i hi => h i (by omega))
    have h2 := h n (by omega)
    have h3 := pow_pos' B hB n
    by_cases hin : i = n
    · subst hin
      unfold dig
      rw [val, Int.add_mul_ediv_right _ _ (by omega), Int.ediv_eq_zero_of_lt h1.1 h1.2, Int.zero_add, Int.emod_eq_of_lt h2.1 h2.2]
    · have ih := dig_val B hB f n (fun i hi => h i (by omega)) i (by omega)
      rw [ih]
      unfold dig
      obtain ⟨k, rfl⟩ : ∃ k, n = i + 1 + k := ⟨n - (i + 1), by omega⟩
      have hp := pow_pos' B hB i
      have e : f (i + 1 + k) * B ^ (i + 1 + k) = (f (i + 1 + k) * B ^ k * B) * B ^ i := by
        rw [Int.pow_add, Int.pow_add]; grind
      rw [val, e, Int.add_mul_ediv_right _ _ (by omega), Int.add_mul_emod_self_right]
theorem run_part_FR {P : Program} (e : TypeId) {k : IntKind} (he : P.underlying e = some (.int k)) {n : Nat} (f : Nat → Int) (i : Nat) (hi : i < n) (w : World) : (part e (FR k n f) i).run P w = .ok (.int k (f i)) w := by
  have ha : (isAgg e).run P w = .ok false w := by simp [isAgg, run_underlying he]
  simp only [part, Sem.run_bind, ha, Result.andThen_ok, FR_at _ _ _ _ hi]
  rfl
theorem run_eq_int {P : Program} (e : TypeId) {k : IntKind} (he : P.underlying e = some (.int k)) (d : Nat) (a b : Int) (w : World) : (Op.equalIn (d + 1) e (.int k a) (.int k b)).run P w = .ok (a == b) w := by
  simp only [Op.equalIn, Sem.run_bind, run_underlying he, Result.andThen_ok]
  simp
theorem run_eqItems_FR {P : Program} (e : TypeId) {k : IntKind} (he : P.underlying e = some (.int k)) {n : Nat} (f g : Nat → Int) (d : Nat) (w : World) : ∀ is : List Nat, (∀ i ∈ is, i < n) →
    (Op.eqItems (d + 1) e 1 (FR k n f) (FR k n g) is).run P w = .ok (is.all fun i => f i == g i) w
  | [], _ => by simp [Op.eqItems]
  | i :: is, h => by
    have ih := run_eqItems_FR e he f g d w is (fun j hj => h j (by simp [hj]))
    have hi := h i (by simp)
    have p1 := run_part_FR (P := P) e he f i hi w
    have p2 := run_part_FR (P := P) e he g i hi w
    have p3 := run_eq_int (P := P) e he d (f i) (g i) w
    simp only [Op.eqItems, Nat.mul_one, Sem.run_bind, p1, p2, p3, Result.andThen_ok]
    cases hb : (f i == g i)
    · simp [hb]
    · simp [hb, ih]
/-- Are the first n numbers the same? -/
def sameRow (n : Nat) (f g : Nat → Int) : Bool := decide (∀ i, i < n → f i = g i)
theorem sameRow_iff (n : Nat) (f g : Nat → Int) : sameRow n f g = true ↔ ∀ i, i < n → f i = g i := by unfold sameRow; simp
theorem run_equal_FR {P : Program} {t e : TypeId} {k : IntKind} {n : Nat} (ht : P.underlying t = some (.array n e)) (he : P.underlying e = some (.int k)) (hc : (P.info? e).map (·.size) = some 1) (f g : Nat → Int) (w : World) :
    (Op.equal t (.agg (FR k n f)) (.agg (FR k n g))).run P w = .ok (sameRow n f g) w := by
  obtain ⟨ie, hie, hs⟩ : ∃ ie, P.info? e = some ie ∧ ie.size = 1 := by
    cases h : P.info? e with
    | none => rw [h] at hc; cases hc
    | some ie => rw [h] at hc; exact ⟨ie, rfl, Option.some.inj hc⟩
  have hcell : P.cellsOf e = 1 := by simp [Program.cellsOf, hie, hs]
  have h := run_equalIn_array (P := P) w 9999 (FR k n f) (FR k n g) ht hie
  rw [hcell, run_eqItems_FR (P := P) e he f g 9998 w (List.range n) (fun i hi => List.mem_range.1 hi)] at h
  rw [show Op.equal t (.agg (FR k n f)) (.agg (FR k n g)) = Op.equalIn (9999 + 1) t (.agg (FR k n f)) (.agg (FR k n g)) from rfl, h]
  congr 1
  rw [Bool.eq_iff_iff, sameRow_iff]
  simp
theorem run_index_FR {P : Program} {t e : TypeId} {k : IntKind} {n : Nat} (ht : P.underlying t = some (.array n e)) (he : P.underlying e = some (.int k)) (hc : (P.info? e).map (·.size) = some 1) (f : Nat → Int) (i : Nat) (hi : i < n) (w : World) :
    (Instr.index t (.agg (FR k n f)) (.int .i64 (i : Int))).run P w = .ok (.int k (f i)) w := by
  obtain ⟨ie, hie, hs⟩ : ∃ ie, P.info? e = some ie ∧ ie.size = 1 := by
    cases h : P.info? e with
    | none => rw [h] at hc; cases hc
    | some ie => rw [h] at hc; exact ⟨ie, rfl, Option.some.inj hc⟩
  have h1 : (asIntOf (.int .i64 (i : Int))).run P w = .ok (IntKind.i64, (i : Int)) w := by simp [asIntOf]
  have h2 := run_part_FR (P := P) e he f i hi w
  have hin : 0 ≤ (i : Int) ∧ (i : Int) < (n : Int) := by omega
  have h3 : (typeInfo e).run P w = .ok ie w := by simp [typeInfo, hie]
  simp only [Instr.index, Sem.run_bind, h1, Result.andThen_ok, run_underlying ht, if_pos hin, sizeOf, h3, hs, Sem.run_pure, Int.toNat_natCast, Nat.mul_one, h2]
/-- Numbers below B^n are the same where their digits are. -/
theorem digs_same (B : Int) (hB : 0 < B) (n : Nat) (x y : Int) (hx : 0 ≤ x ∧ x < B ^ n) (hy : 0 ≤ y ∧ y < B ^ n) : (∀ i, i < n → dig B x i = dig B y i) ↔ x = y := by
  constructor
  · intro h
    have h1 := val_dig B hB x n
    have h2 := val_dig B hB y n
    rw [val_congr B _ _ n h] at h1
    rw [Int.emod_eq_of_lt hx.1 hx.2] at h1
    rw [Int.emod_eq_of_lt hy.1 hy.2] at h2
    rw [← h1, h2]
  · rintro rfl i _; rfl
theorem sameRow_dig (B : Int) (hB : 0 < B) (n : Nat) (x y : Int) (hx : 0 ≤ x ∧ x < B ^ n) (hy : 0 ≤ y ∧ y < B ^ n) : sameRow n (dig B x) (dig B y) = decide (x = y) := by
  rw [Bool.eq_iff_iff, sameRow_iff, digs_same B hB n x y hx hy]; simp
theorem and1 (x : Int) (h0 : 0 ≤ x) (h1 : x < 18446744073709551616) : Go.bits .and .u64 x 1 = x % 2 := by
  rw [u64_and _ _ h0 h1 (by omega) (by omega), show (1 : Int).toNat = 2 ^ 1 - 1 from rfl, Nat.and_two_pow_sub_one_eq_mod]
  omega
theorem or_bit (x b : Int) (r : Nat) (hr : r < 8) (hx : 0 ≤ x ∧ x < 2 ^ r) (hb : b = 0 ∨ b = 1) : Go.bits .or .u8 x (b % 256 * 2 ^ r % 256) = x + b * 2 ^ r := by
  have hp : (0 : Int) < 2 ^ r := Int.pow_pos (by omega)
  have h8 : (2 : Int) ^ r ≤ 128 := by
    have hc : r = 0 ∨ r = 1 ∨ r = 2 ∨ r = 3 ∨ r = 4 ∨ r = 5 ∨ r = 6 ∨ r = 7 := by omega
    rcases hc with h | h | h | h | h | h | h | h <;> subst h <;> decide
  have hv : b % 256 * 2 ^ r % 256 = b * 2 ^ r := by
    rcases hb with h | h
    · subst h; simp
    · subst h; rw [Int.emod_eq_of_lt (show (0 : Int) ≤ 1 % 256 * 2 ^ r by omega) (by omega)]; rfl
  rw [hv]
  have hb2 : 0 ≤ b * 2 ^ r ∧ b * 2 ^ r ≤ 128 := by rcases hb with h | h <;> subst h <;> omega
  rw [u8_or _ _ hx.1 (by omega) hb2.1 (by omega)]
  have e : (b * 2 ^ r).toNat = 2 ^ r * b.toNat := by
    rcases hb with h | h
    · subst h; simp
    · subst h; rw [Int.one_mul, Int.toNat_pow_of_nonneg (by omega)]; simp
  have hxn : x.toNat < 2 ^ r := by
    have : ((2 ^ r : Nat) : Int) = 2 ^ r := by simp
    omega
  rw [e, Nat.or_comm, ← Nat.two_pow_add_eq_or_of_lt hxn]
  rcases hb with h | h
  · subst h; simp; omega
  · subst h
    have : ((2 ^ r : Nat) : Int) = 2 ^ r := by simp
    simp; omega
theorem pow256 (j : Nat) : (256 : Int) ^ j = 2 ^ (8 * j) := by
  rw [Int.pow_mul]; rfl
/-- The limbs of a small number. -/
def smL (n : Int) (i : Nat) : Int := if i = 0 then n else 0
theorem exec_load {P : Program} {o : Oper} {ev : Operand → Value} {w : World} {ty : TypeId} {x : Operand} {g : Nat} {k : IntKind} {n : Nat} {f : Nat → Int} {t : TypeId} {d : TypeDesc} (hr : Row w g k n f t)
    (hu : P.underlying ty = some d) (hi : (P.info? ty).map (·.size) = some n) (hd : (match d with | .struct _ | .array _ _ => true | _ => false) = true) (ho : o.op = .load ty x) (hx : ev x = .pointer (some ⟨g, 0, none⟩)) : (execOp ev o).run P w = .ok (.value (.agg (FR k n f))) w := by
  unfold execOp
  simp only [ho, hx, Instr.loadAt, Instr.sureAddr, Sem.run_bind, Sem.run_pure, Result.andThen_ok, run_loadVar_row w g t ty _ _ d hr hu hd (by rw [FR_size]; exact hi)]
/-- 32 numbers as a string. -/
def sOf (f : Nat → Int) : ByteArray := strOfNums ((List.range 32).map f)
theorem sOf_inj (f g : Nat → Int) (hf : ∀ i, 0 ≤ f i ∧ f i < 256) (hg : ∀ i, 0 ≤ g i ∧ g i < 256) : sOf f = sOf g ↔ ∀ i, i < 32 → f i = g i := by
  constructor
  · intro h i hi
    have h1 : (((List.range 32).map f).map fun n => UInt8.ofNat n.toNat) = (((List.range 32).map g).map fun n => UInt8.ofNat n.toNat) := by
      have := congrArg (fun b : ByteArray => b.data.toList) h
      simpa [sOf, strOfNums] using this
    have h2 := congrArg (fun l => l[i]?) h1
    simp only [List.getElem?_map, List.getElem?_range hi, Option.map_some, Option.some.injEq] at h2
    have h3 := congrArg UInt8.toNat h2
    have b1 := hf i
    have b2 := hg i
    rw [UInt8.toNat_ofNat', UInt8.toNat_ofNat', Nat.mod_eq_of_lt (by omega), Nat.mod_eq_of_lt (by omega)] at h3
    omega
  · intro h
    unfold sOf
    congr 1
    apply List.map_congr_left
    intro i hi
    exact h i (List.mem_range.1 hi)
theorem beq_bytes (a b : ByteArray) : (a == b) = true ↔ a = b := by
  have e : (a == b) = (a.data == b.data) := rfl
  rw [e, beq_iff_eq]
  constructor
  · intro h; cases a; cases b; simp at h; rw [h]
  · rintro rfl; rfl
theorem sOf_same (N M : Int) (hN : 0 ≤ N ∧ N < 256 ^ 32) (hM : 0 ≤ M ∧ M < 256 ^ 32) : (sOf (dig 256 N) == sOf (dig 256 M)) = decide (N = M) := by
  rw [Bool.eq_iff_iff]
  rw [decide_eq_true_eq, beq_bytes, sOf_inj _ _ (dig_b 256 (by omega) N) (dig_b 256 (by omega) M), digs_same 256 (by omega) 32 N M hN hM]
theorem sOf_sameL (N M : Int) (hN : 0 ≤ N ∧ N < 256 ^ 32) (hM : 0 ≤ M ∧ M < 256 ^ 32) : ((sOf (dig 256 N)).toList == (sOf (dig 256 M)).toList) = decide (N = M) := by
  rw [← beq_toListBytes]; exact sOf_same N M hN hM
theorem sB_sOf (f : Nat → Int) (hf : ∀ i, i < 32 → 0 ≤ f i ∧ f i < 256) (i : Nat) (hi : i < 32) : sB (sOf f) i = f i := by
  have hs : (sOf f).size = 32 := by simp [sOf, strOfNums, ByteArray.size]
  obtain ⟨c, h1, h2⟩ := sB_at (sOf f) i (by omega)
  rw [← h2, ← h1 (by omega)]
  have h3 := hf i hi
  show (((sOf f).data[i]).toNat : Int) = f i
  simp [sOf, strOfNums]
  omega
theorem sOf_size (f : Nat → Int) : (sOf f).size = 32 := by simp [sOf, strOfNums, ByteArray.size]
theorem val_split (B : Int) (f : Nat → Int) (a : Nat) : ∀ n, val B f (a + n) = val B f a + B ^ a * val B (fun j => f (a + j)) n
  | 0 => by simp [val]
  | n + 1 => by
    have ih := val_split B f a n
    show val B f (a + n) + f (a + n) * B ^ (a + n) = val B f a + B ^ a * (val B (fun j => f (a + j)) n + f (a + n) * B ^ n)
    rw [ih, Int.pow_add]; grind
theorem val_nonneg (B : Int) (hB : 0 < B) (f : Nat → Int) : ∀ n, (∀ i, i < n → 0 ≤ f i) → 0 ≤ val B f n
  | 0, _ => by simp [val]
  | n + 1, h => by
    have h1 := val_nonneg B hB f n (fun i hi => h i (by omega))
    have h2 : 0 ≤ f n * B ^ n := Int.mul_nonneg (h n (by omega)) (Int.le_of_lt (pow_pos' B hB n))
    rw [val]; omega
theorem oper_storeG {P : Program} {o : Oper} {ops : Array Oper} {a : Act} {w : World} {K : Act → World → Prop} {Q : Exit → Act → World → Prop} {k : IntKind} {n : Nat} {f : Nat → Int} {t ty : TypeId} {x y : Operand} {g : Nat}
    (f' : Nat → Int) (hr : Row w g k n f t) (hi : (P.info? ty).map (·.size) = some n) (hw : Region.wanted o (yielded ops a.tmps) = true) (hdst : o.dst = none) (ho : o.op = .store ty x y) (hx : a.eval x = .pointer (some ⟨g, 0, none⟩)) (hy : a.eval y = .agg (FR k n f'))
    (h : ∀ w', Stored w w' g → Row w' g k n f' t → K a w') : if Region.wanted o (yielded ops a.tmps) = true then Oper.wp P o a w K Q else K (a.put none undef) w := by
  rw [if_pos hw]
  obtain ⟨ie, hie, hs⟩ : ∃ ie, P.info? ty = some ie ∧ ie.size = n := by
    cases he : P.info? ty with
    | none => rw [he] at hi; cases hi
    | some ie => rw [he] at hi; exact ⟨ie, rfl, Option.some.inj hi⟩
  unfold Oper.wp execOp
  simp only [ho, hx, hy, Instr.storeAt, Instr.sureAddr, Sem.run_bind, Sem.run_pure, Result.andThen_ok, run_storeVar_row ty ie hie g t (FR k n f) (FR k n f') w hr (by rw [FR_size, FR_size]) (by rw [FR_size, hs]) (FR_one k n f')]
  have := h _ ⟨fun k hk => setCells_other hk _ _ _, setCells_size g _ _ _, fun B W hB hb => bel_setCells hB _ _ _ hb⟩ (Row.all hr)
  show K (a.put o.dst undef) _
  rw [hdst]
  exact this
theorem val_upd (B : Int) (f : Nat → Int) (j : Nat) (x : Int) : ∀ n, j < n → val B (upd f j (f j + x)) n = val B f n + x * B ^ j
  | 0, h => absurd h (by omega)
  | n + 1, h => by
    rw [val, val]
    by_cases hj : j = n
    · subst hj
      rw [upd_same, val_congr B (upd f j (f j + x)) f j (fun i hi => upd_other _ _ _ _ (by omega))]
      grind
    · rw [val_upd B f j x n (by omega), upd_other _ _ _ _ (fun e => hj e.symm)]
      omega
theorem u8b {x : Int} (h : (Lit.int .u8 x).wf = true) : 0 ≤ x ∧ x < 256 := by
  have e1 : IntKind.u8.min = 0 := by decide
  have e2 : IntKind.u8.max = 255 := by decide
  simp [Lit.wf] at h; omega
theorem and32 (x : Nat) (h : x < 18446744073709551616) : Go.bits .and .u64 (x : Int) 4294967295 = ((x % 4294967296 : Nat) : Int) := by
  rw [u64_and _ _ (by omega) (by omega) (by omega) (by omega), show (4294967295 : Int).toNat = 2 ^ 32 - 1 from rfl, Nat.and_two_pow_sub_one_eq_mod]
  rfl
theorem val_succ (B : Int) (f : Nat → Int) (n : Nat) : val B f (n + 1) = val B f n + f n * B ^ n := rfl
theorem u64wm (z : Int) : IntKind.u64.wrap z = z % 18446744073709551616 := rfl
theorem bel_four (w : World) (a b c d : Obj) : Below w.heap.size w ((((w.alloc a).alloc b).alloc c).alloc d) := (bel_three w a b c).alloc (bel_three w a b c).size d
theorem four_new (w : World) (a b c d : Obj) : ((((w.alloc a).alloc b).alloc c).alloc d).heap[w.heap.size + 1 + 1 + 1]? = some d := by
  have h := heap_alloc_new (((w.alloc a).alloc b).alloc c) d
  have e : (((w.alloc a).alloc b).alloc c).heap.size = w.heap.size + 1 + 1 + 1 := by simp
  rwa [e] at h
section
variable {H : Type} {enc : TypeId × Value → H} {P : Program} {t e : TypeId} {n : Nat} {q : IntKind} {W : World} {base : Nat} {sp : Nat → Bool} {held : Bool}
/-- The number in a cell. -/
def cellInt (cs : List Value) (i : Nat) : Int := match cs[i]? with
  | some v => intOf v
  | none => 0
theorem drop_take_one {cs : List Value} {i : Nat} {v : Value} (h : (cs.drop i).take 1 = [v]) : cs[i]? = some v := by
  have h2 := congrArg (fun l => l[0]?) h
  simpa [List.getElem?_take, List.getElem?_drop] using h2
theorem take_drop_one {cs : List Value} {i : Nat} {v : Value} (h : cs[i]? = some v) : (cs.drop i).take 1 = [v] := by
  obtain ⟨hi, hv⟩ := List.getElem?_eq_some_iff.1 h
  rw [List.drop_eq_getElem_cons hi, hv]; rfl
theorem mapM_open (he : P.underlying e = some (.int q)) {m : Nat} {cs : List Value} : ∀ (L : List Nat) (xs : List (DataW H × List MemPlace)),
    L.mapM (fun i => DataW.trod enc P W base sp held m e ((cs.drop (i * 1)).take 1)) = some xs →
    xs = L.map (fun i => (.lit (.int q (cellInt cs i)), [])) ∧ ∀ i ∈ L, cs[i]? = some (.int q (cellInt cs i)) ∧ (Lit.int q (cellInt cs i)).wf = true
  | [], xs, h => by
    simp at h
    subst h
    exact ⟨rfl, by simp⟩
  | i :: L, xs, h => by
    rw [List.mapM_cons] at h
    simp only [bind, Option.bind_eq_some_iff, pure, Option.some.injEq] at h
    obtain ⟨y, hy, ys, hys, rfl⟩ := h
    obtain ⟨rfl, hl⟩ := mapM_open he L ys hys
    obtain ⟨a, ea, rfl, wa⟩ := DataW.trod_int he hy
    rw [Nat.mul_one] at ea
    have hc := drop_take_one ea
    have hi : cellInt cs i = a := by unfold cellInt; rw [hc]; rfl
    rw [← hi] at hc wa ⊢
    refine ⟨rfl, fun j hj => ?_⟩
    rcases List.mem_cons.1 hj with rfl | hj
    · exact ⟨hc, wa⟩
    · exact hl j hj
theorem mapM_shut (he : P.underlying e = some (.int q)) {m : Nat} {cs : List Value} (f : Nat → Int) : ∀ (L : List Nat), (∀ i ∈ L, cs[i]? = some (.int q (f i)) ∧ (Lit.int q (f i)).wf = true) →
    L.mapM (fun i => DataW.trod enc P W base sp held (m + 1) e ((cs.drop (i * 1)).take 1)) = some (L.map (fun i => (.lit (.int q (f i)), [])))
  | [], _ => by simp
  | i :: L, h => by
    have ih := mapM_shut he (m := m) f L (fun j hj => h j (by simp [hj]))
    have hi := h i (by simp)
    have e1 := take_drop_one hi.1
    have h1 : DataW.trod enc P W base sp held (m + 1) e [.int q (f i)] = some (.lit (.int q (f i)), []) := by
      rw [DataW.trod_step]
      unfold DataW.trodStep
      simp [he, hi.2]
    rw [List.mapM_cons, ih, Nat.mul_one, e1, h1]
    rfl
theorem open_array (ht : P.underlying t = some (.array n e)) (he : P.underlying e = some (.int q)) (hce : P.cellsOf e = 1) (hct : P.cellsOf t = n) {r : Reach} {b0 : Nat} {v : Value} (hval : Value.okWide P W r b0 t v) {d : DataW H} {ps : List MemPlace} (hd : DataW.Trod enc P W base sp held t v d ps) :
    ∃ f : Nat → Int, v = .agg (FR q n f) ∧ d = .agg ((List.range n).map fun i => .lit (.int q (f i))) ∧ ps = [] ∧ ∀ i, i < n → (Lit.int q (f i)).wf = true := by
  obtain ⟨cs, rfl⟩ : ∃ cs : Array Value, v = .agg cs := by
    simp only [Value.okWide, ht] at hval
    obtain ⟨cs, h1, _⟩ := hval
    exact ⟨cs, h1⟩
  obtain ⟨fuel, hf⟩ := hd
  cases fuel with
  | zero => simp [DataW.trod] at hf
  | succ m =>
    rw [DataW.trod_step] at hf
    unfold DataW.trodStep at hf
    simp only [ht, Value.cells, hce] at hf
    split at hf
    · rename_i hn
      simp only [Option.map_eq_some_iff] at hf
      obtain ⟨ys, hy, e1⟩ := hf
      obtain ⟨rfl, hl⟩ := mapM_open he _ ys hy
      simp only [Prod.mk.injEq] at e1
      have hsz : cs.size = n := by rw [← hct]; simpa using hn
      refine ⟨cellInt cs.toList, ?_, ?_, ?_, fun i hi => (hl i (List.mem_range.2 hi)).2⟩
      · congr 1
        apply Array.ext_getElem?
        intro i
        by_cases hi : i < n
        · have h2 := (hl i (List.mem_range.2 hi)).1
          rw [FR_at _ _ _ _ hi, ← h2]
          simp
        · rw [FR_out _ _ _ _ hi]
          exact Array.getElem?_eq_none (by omega)
      · rw [← e1.1]; simp [Function.comp_def]
      · rw [← e1.2]; simp [List.flatMap_eq_nil_iff]
    · cases hf
theorem shut_array (ht : P.underlying t = some (.array n e)) (he : P.underlying e = some (.int q)) (hce : P.cellsOf e = 1) (hct : P.cellsOf t = n) (f : Nat → Int) (hw : ∀ i, i < n → (Lit.int q (f i)).wf = true) :
    DataW.Trod enc P W base sp held t (.agg (FR q n f)) (.agg ((List.range n).map fun i => .lit (.int q (f i)))) [] := by
  refine ⟨0 + 1 + 1, ?_⟩
  rw [DataW.trod_step]
  unfold DataW.trodStep
  simp only [ht, Value.cells, hce]
  rw [if_pos (by rw [Array.length_toList, FR_size, hct])]
  rw [mapM_shut (enc := enc) (W := W) (base := base) (sp := sp) (held := held) he f (List.range n) (fun i hi => ⟨by rw [Array.getElem?_toList, FR_at _ _ _ _ (List.mem_range.1 hi)], hw i (List.mem_range.1 hi)⟩)]
  simp [Function.comp_def, List.flatMap_eq_nil_iff]
end
section
variable {P : Program} {ops : Array Oper} {Q : Exit → Act → World → Prop} {md : Region.Mode} {S : World → Prop} {ds : List Nat}
/-- A whole row of numbers, read at any address. -/
theorem step_load_at {P : Program} {ops : Array Oper} {rest : List Oper} {o : Oper} {a : Act} {w : World} {Q : Exit → Act → World → Prop} {k : IntKind} {n : Nat} {f : Nat → Int} {ty : TypeId} {x : Operand} {ad : Addr} {d : TypeDesc}
    (hr : ∀ j, j < n → w.cell? (ad.add j) = some (.int k (f j))) (hu : P.underlying ty = some d) (hi : (P.info? ty).map (·.size) = some n) (hd : (match d with | .struct _ | .array _ _ => true | _ => false) = true) (hgd : o.guard = none) (ho : o.op = .load ty x) (hx : a.eval x = .pointer (some ad))
    (h : wpList P ops Q rest (a.put o.dst (.agg (FR k n f))) w) : wpList P ops Q (o :: rest) a w := by
  obtain ⟨ie, hie, hs⟩ : ∃ ie, P.info? ty = some ie ∧ ie.size = n := by
    cases he : P.info? ty with
    | none => rw [he] at hi; cases hi
    | some ie => rw [he] at hi; exact ⟨ie, rfl, Option.some.inj hi⟩
  have hti : (typeInfo ty).run P w = .ok ie w := by simp [typeInfo, hie]
  have ha : (isAgg ty).run P w = .ok true w := by
    simp only [isAgg, Sem.run_bind, run_underlying hu, Result.andThen_ok]
    cases d <;> simp_all
  have hl : (loadCells ad n).run P w = .ok (FR k n f) w := by
    have := run_loadCells_list (P := P) w ad (FR k n f).toList (fun j v hv => by
      rw [Array.getElem?_toList] at hv
      by_cases hj : j < n
      · rw [FR_at _ _ _ _ hj] at hv; rw [hr j hj]; exact hv
      · rw [FR_out _ _ _ _ hj] at hv; cases hv)
    rw [Array.length_toList, FR_size] at this
    simpa using this
  refine wpList_plain hgd fun K hK => ?_
  unfold Oper.wp execOp
  simp only [ho, hx, Instr.loadAt, Instr.sureAddr, Sem.run_bind, Sem.run_pure, Result.andThen_ok, loadVar, ha, sizeOf, hti, hs, hl, if_true]
  exact hK _ _ h
end
end Go.Proofs.YtaaipbhfikefaaaDoor.P
end

section
namespace Go.Proofs.YtaaipbhfikefaaaDoorW.PrintLast
/-- Number i is listed too. -/
def up (b : Nat → Bool) (i : Nat) : Nat → Bool := fun j => if j = i then true else b j
theorem up_self (b : Nat → Bool) (i : Nat) : up b i i = true := by simp [up]
theorem up_ne {b : Nat → Bool} {i j : Nat} (h : j ≠ i) : up b i j = b j := by simp [up, h]
/-- What is listed: O's operations by b, all else already. -/
def lof (n : Nat) (O : List Nat) (b : Nat → Bool) : List Bool := (List.range n).map fun j => if O.contains j then b j else true
/-- The destinations of what is listed are filled. -/
def putSel (a : Act) (b : Nat → Bool) : List (Nat × Tmp × Value) → Act
  | [] => a
  | e :: r => putSel (if b e.1 = true then a.put (some e.2.1) e.2.2 else a) b r
section
variable {P : Program} {ops : Array Oper} {Q : Exit → Act → World → Prop} {md : Region.Mode} {T : Bool × List (List Nat × List Nat)} {B : List Nat} {O : List Nat} {b : Nat → Bool} {i j n : Nat}
theorem lof_length : (lof n O b).length = n := by simp [lof]
theorem lof_get {d : Bool} (hj : j < n) : (lof n O b).getD j d = if O.contains j then b j else true := by
  simp [lof, List.getD_eq_getElem?_getD, hj]
theorem lof_up (hi : O.contains i = true) : (lof n O b).set i true = lof n O (up b i) := by
  apply List.ext_getElem?
  intro j
  by_cases hj : j < n
  · by_cases hij : i = j
    · subst hij
      have hl : i < (lof n O b).length := by rw [lof_length]; exact hj
      rw [List.getElem?_set_self hl]
      simp only [lof, List.getElem?_map, List.getElem?_range hj, Option.map_some, hi, if_true, up_self]
    · rw [List.getElem?_set_ne hij]
      simp only [lof, List.getElem?_map, List.getElem?_range hj, Option.map_some]
      rw [up_ne (Ne.symm hij)]
  · rw [List.getElem?_eq_none (by simp [lof]; omega), List.getElem?_eq_none (by simp [lof]; omega)]
/-- The step of operation i: out of the relation, it not being listed, all it waits for being so, and nothing that waits for it. -/
def StepAt (P : Program) (ops : Array Oper) (Q : Exit → Act → World → Prop) (B : List Nat) (O : List Nat) (I : (Nat → Bool) → Act → World → Prop) (i : Nat) : Prop :=
  ∀ b a w, I b a w → b i = false → (∀ j, (O.contains j && (B.getD i 0).testBit j) = true → b j = true) → (∀ d, (O.contains d && (B.getD d 0).testBit i) = true → b d = false) →
    ∃ oi, ops[i]? = some oi ∧ ∀ K : Act → World → Prop, Shut (∀ a' w', I (up b i) a' w' → K a' w') → if Region.wanted oi (yielded ops a.tmps) = true then Oper.wp P oi a w K Q else K (a.put oi.dst undef) w
theorem steps_nil {I : (Nat → Bool) → Act → World → Prop} : ∀ i ∈ ([] : List Nat), StepAt P ops Q B O I i := fun _ h => by cases h
theorem steps_cons {I : (Nat → Bool) → Act → World → Prop} {rs : List Nat} (h : StepAt P ops Q B O I i) (hs : ∀ j ∈ rs, StepAt P ops Q B O I j) : ∀ j ∈ i :: rs, StepAt P ops Q B O I j := fun j hj => by
  rcases List.mem_cons.1 hj with rfl | hj
  · exact h
  · exact hs j hj
/-- Every edge goes to an earlier operation; what is listed already waits for nothing of O; O's numbers are the region's, each once. -/
def baseOk (T : List (List Nat × List Nat)) (O : List Nat) : Bool :=
  (List.range T.length).all (fun d => match T[d]? with
    | some r => (O.contains d || r.1.all fun n => !O.contains n) && r.1.all fun n => decide (n < d)
    | none => false) && O.all (fun i => decide (i < T.length)) && decide O.Nodup
theorem baseOk_row {T : List (List Nat × List Nat)} (h : baseOk T O = true) {d : Nat} {r : List Nat × List Nat} (hr : T[d]? = some r) : (O.contains d = false → ∀ n ∈ r.1, O.contains n = false) ∧ ∀ n ∈ r.1, n < d := by
  simp only [baseOk, Bool.and_eq_true] at h
  have h1 := List.all_eq_true.1 h.1.1 d (List.mem_range.2 (List.getElem?_eq_some_iff.1 hr).1)
  rw [hr] at h1
  simp only [Bool.and_eq_true, Bool.or_eq_true, List.all_eq_true, decide_eq_true_eq] at h1
  refine ⟨fun hd n hn => ?_, h1.2⟩
  rcases h1.1 with h2 | h2
  · rw [hd] at h2; cases h2
  · simpa using h2 n hn
theorem baseOk_lt {T : List (List Nat × List Nat)} (h : baseOk T O = true) {i : Nat} (hi : i ∈ O) : i < T.length := by
  simp only [baseOk, Bool.and_eq_true] at h
  simpa using List.all_eq_true.1 h.1.2 i hi
theorem baseOk_nodup {T : List (List Nat × List Nat)} (h : baseOk T O = true) : O.Nodup := by
  simp only [baseOk, Bool.and_eq_true] at h
  exact of_decide_eq_true h.2
def Closed (T : List (List Nat × List Nat)) (O : List Nat) (b : Nat → Bool) : Prop := ∀ d r, T[d]? = some r → O.contains d = true → b d = true → ∀ n ∈ r.1, O.contains n = true → b n = true
/-- What waits for nothing of O has none of it in its bits. -/
theorem bits_out {T : List (List Nat × List Nat)} (hw : waitsOk T B = true) (hk : baseOk T O = true) : ∀ (m d : Nat), d ≤ m → d < T.length → O.contains d = false → ∀ j, (B.getD d 0).testBit j = true → O.contains j = false := by
  intro m
  induction m with
  | zero =>
    intro d hd hl hO j hj
    have hd0 : d = 0 := by omega
    subst hd0
    have hr : T[0]? = some T[0] := List.getElem?_eq_getElem hl
    have h1 := List.all_eq_true.1 hw 0 (List.mem_range.2 hl)
    rw [hr] at h1
    simp only [beq_iff_eq] at h1
    have h2 : (upM B 0 T[0].1).testBit j = true := by rw [← h1, Nat.testBit_or, hj, Bool.true_or]
    obtain ⟨n, hn, h3⟩ := upM_bit h2
    have := (baseOk_row hk hr).2 n hn
    omega
  | succ m ih =>
    intro d hd hl hO j hj
    have hr : T[d]? = some T[d] := List.getElem?_eq_getElem hl
    have h1 := List.all_eq_true.1 hw d (List.mem_range.2 hl)
    rw [hr] at h1
    simp only [beq_iff_eq] at h1
    have h2 : (upM B d T[d].1).testBit j = true := by rw [← h1, Nat.testBit_or, hj, Bool.true_or]
    obtain ⟨n, hn, h3⟩ := upM_bit h2
    have hO2 := (baseOk_row hk hr).1 hO n hn
    rcases h3 with rfl | ⟨h4, h5⟩
    · exact hO2
    · exact ih n (by omega) (by omega) hO2 j h5
theorem closed_bits {T : List (List Nat × List Nat)} (hw : waitsOk T B = true) (hk : baseOk T O = true) (hc : Closed T O b) : ∀ (m d : Nat), d ≤ m → d < T.length → O.contains d = true → b d = true → ∀ j, O.contains j = true → (B.getD d 0).testBit j = true → b j = true := by
  intro m
  induction m with
  | zero =>
    intro d hd hl hO hb j hjO hj
    have hd0 : d = 0 := by omega
    subst hd0
    have hr : T[0]? = some T[0] := List.getElem?_eq_getElem hl
    have h1 := List.all_eq_true.1 hw 0 (List.mem_range.2 hl)
    rw [hr] at h1
    simp only [beq_iff_eq] at h1
    have h2 : (upM B 0 T[0].1).testBit j = true := by rw [← h1, Nat.testBit_or, hj, Bool.true_or]
    obtain ⟨n, hn, h3⟩ := upM_bit h2
    have := (baseOk_row hk hr).2 n hn
    omega
  | succ m ih =>
    intro d hd hl hO hb j hjO hj
    have hr : T[d]? = some T[d] := List.getElem?_eq_getElem hl
    have h1 := List.all_eq_true.1 hw d (List.mem_range.2 hl)
    rw [hr] at h1
    simp only [beq_iff_eq] at h1
    have h2 : (upM B d T[d].1).testBit j = true := by rw [← h1, Nat.testBit_or, hj, Bool.true_or]
    obtain ⟨n, hn, h3⟩ := upM_bit h2
    rcases h3 with rfl | ⟨h4, h5⟩
    · exact hc d _ hr hO hb n hn hjO
    · cases hO2 : O.contains n with
      | true => exact ih n (by omega) (by omega) hO2 (hc d _ hr hO hb n hn hO2) j hjO h5
      | false =>
        have := bits_out hw hk n n (Nat.le_refl _) (by omega) hO2 j h5
        rw [hjO] at this
        cases this
theorem up_count : ∀ {O : List Nat}, O.Nodup → i ∈ O → b i = false → (O.filter fun j => !up b i j).length + 1 = (O.filter fun j => !b j).length
  | [], _, hi, _ => by cases hi
  | x :: r, hn, hi, hb => by
    rw [List.nodup_cons] at hn
    rcases List.mem_cons.1 hi with rfl | hi
    · have h1 : (r.filter fun j => !up b i j) = r.filter fun j => !b j := by
        refine List.filter_congr (fun j hj => ?_)
        rw [up_ne (fun e => hn.1 (by rw [← e]; exact hj))]
      rw [List.filter_cons, List.filter_cons]
      simp [up_self, hb, h1]
    · have hxi : x ≠ i := fun e => hn.1 (e ▸ hi)
      have h1 := up_count hn.2 hi hb
      rw [List.filter_cons, List.filter_cons, up_ne hxi]
      cases hbx : b x
      · simp only [Bool.not_false, if_true, List.length_cons]
        omega
      · simpa using h1
theorem inv_all (hT : rtab md ops = T) (hw : waitsOk T.2 B = true) (hk : baseOk T.2 O = true) (I : (Nat → Bool) → Act → World → Prop) (hs : ∀ i ∈ O, StepAt P ops Q B O I i)
    (hend : ∀ b a w, (∀ j, O.contains j = true → b j = true) → I b a w → Q .normal a w) :
    ∀ (m : Nat) (b : Nat → Bool) (a : Act) (w : World), (O.filter fun j => !b j).length = m → Closed T.2 O b → I b a w → wpAnyLast P md ops Q (fun _ => True) [] m (lof T.2.length O b).toArray a w := by
  subst hT
  have mem_ready' : ∀ {b : Nat → Bool} {i : Nat}, i ∈ Region.ready md ops (lof (rtab md ops).2.length O b).toArray → i < (rtab md ops).2.length ∧ O.contains i = true ∧ b i = false ∧ ∀ r, (rtab md ops).2[i]? = some r → ∀ n ∈ r.1, n < (rtab md ops).2.length → O.contains n = true → b n = true := by
    intro b i hi
    rw [ready_eq] at hi
    unfold readyT at hi
    rw [List.mem_filter, List.mem_range] at hi
    obtain ⟨hl, h1⟩ := hi
    unfold readyAt at h1
    rw [Bool.and_eq_true, lof_get hl] at h1
    obtain ⟨h2, h3⟩ := h1
    have h4 : O.contains i = true := by
      cases h : O.contains i with
      | true => rfl
      | false => rw [h] at h2; simp at h2
    rw [h4] at h2
    refine ⟨hl, h4, by simpa using h2, fun r hr n hn hnl hO => ?_⟩
    rw [hr] at h3
    simp only [List.all_eq_true] at h3
    have h5 := h3 n hn
    rw [lof_get hnl, hO] at h5
    simpa using h5
  intro m
  induction m with
  | zero =>
    intro b a w hm hc hI
    have hall : ∀ j, O.contains j = true → b j = true := by
      intro j hj
      cases hb : b j with
      | true => rfl
      | false =>
        have : j ∈ O.filter fun j => !b j := List.mem_filter.2 ⟨List.contains_iff_mem.1 hj, by simp [hb]⟩
        rw [List.eq_nil_of_length_eq_zero hm] at this
        cases this
    refine ⟨?_, hend b a w hall hI⟩
    refine List.eq_nil_iff_forall_not_mem.2 (fun i hi => ?_)
    obtain ⟨_, h1, h2, _⟩ := mem_ready' hi
    rw [hall i h1] at h2
    cases h2
  | succ m ih =>
    intro b a w hm hc hI
    refine ⟨fun hr => ?_, fun i hi => ?_⟩
    · exfalso
      -- the smallest number that isn't listed is ready
      have hex : ∃ i, O.contains i = true ∧ b i = false := by
        cases hf : O.filter (fun j => !b j) with
        | nil => rw [hf] at hm; simp at hm
        | cons x r =>
          have hx : x ∈ O.filter (fun j => !b j) := by rw [hf]; exact List.mem_cons_self
          rw [List.mem_filter] at hx
          exact ⟨x, List.contains_iff_mem.2 hx.1, by simpa using hx.2⟩
      have hmin : ∀ k, (∃ i, i ≤ k ∧ O.contains i = true ∧ b i = false) → ∃ i, O.contains i = true ∧ b i = false ∧ ∀ j, j < i → O.contains j = true → b j = true := by
        intro k
        induction k with
        | zero =>
          rintro ⟨i, hi, h1, h2⟩
          exact ⟨i, h1, h2, fun j hj => by omega⟩
        | succ k ihk =>
          rintro ⟨i, hi, h1, h2⟩
          by_cases hlow : ∃ j, j ≤ k ∧ O.contains j = true ∧ b j = false
          · exact ihk hlow
          · refine ⟨i, h1, h2, fun j hj hO => ?_⟩
            cases hb : b j with
            | true => rfl
            | false => exact absurd ⟨j, by omega, hO, hb⟩ hlow
      obtain ⟨i0, h1, h2⟩ := hex
      obtain ⟨i, hO, hb, hlow⟩ := hmin i0 ⟨i0, Nat.le_refl _, h1, h2⟩
      have hl := baseOk_lt hk (List.contains_iff_mem.1 hO)
      have hin : i ∈ Region.ready md ops (lof (rtab md ops).2.length O b).toArray := by
        rw [ready_eq]
        unfold readyT
        rw [List.mem_filter, List.mem_range]
        refine ⟨hl, ?_⟩
        unfold readyAt
        rw [lof_get hl, hO, hb]
        have hr2 : (rtab md ops).2[i]? = some (rtab md ops).2[i] := List.getElem?_eq_getElem hl
        rw [hr2]
        simp only [if_true, Bool.not_false, Bool.true_and, List.all_eq_true]
        intro n hn
        have hni := (baseOk_row hk hr2).2 n hn
        rw [lof_get (by omega)]
        cases hOn : O.contains n with
        | true => simpa using hlow n hni hOn
        | false => simp
      rw [hr] at hin
      cases hin
    · obtain ⟨hl, hO, hb, hneed⟩ := mem_ready' hi
      have hon : ∀ j, (O.contains j && (B.getD i 0).testBit j) = true → b j = true := by
        intro j hj
        rw [Bool.and_eq_true] at hj
        have hr2 : (rtab md ops).2[i]? = some (rtab md ops).2[i] := List.getElem?_eq_getElem hl
        have h1 := List.all_eq_true.1 hw i (List.mem_range.2 hl)
        rw [hr2] at h1
        simp only [beq_iff_eq] at h1
        have h2 : (upM B i (rtab md ops).2[i].1).testBit j = true := by rw [← h1, Nat.testBit_or, hj.2, Bool.true_or]
        obtain ⟨n, hn, h3⟩ := upM_bit h2
        have hni := (baseOk_row hk hr2).2 n hn
        rcases h3 with rfl | ⟨h4, h5⟩
        · exact hneed _ hr2 n hn (by omega) hj.1
        · cases hO2 : O.contains n with
          | true => exact closed_bits hw hk hc n n (Nat.le_refl _) (by omega) hO2 (hneed _ hr2 n hn (by omega) hO2) j hj.1 h5
          | false =>
            have := bits_out hw hk n n (Nat.le_refl _) (by omega) hO2 j h5
            rw [hj.1] at this
            cases this
      have hoff : ∀ d, (O.contains d && (B.getD d 0).testBit i) = true → b d = false := by
        intro d hd
        rw [Bool.and_eq_true] at hd
        cases hbd : b d with
        | false => rfl
        | true =>
          have hdl := baseOk_lt hk (List.contains_iff_mem.1 hd.1)
          have := closed_bits hw hk hc d d (Nat.le_refl _) hdl hd.1 hbd i hO hd.2
          rw [hb] at this
          cases this
      obtain ⟨oi, hoi, hK⟩ := hs i (List.contains_iff_mem.1 hO) b a w hI hb hon hoff
      refine wpOp_step hoi (fun K' hK' => hK K' (fun a' w' hI' => hK' a' w' ⟨fun _ _ => trivial, ?_⟩))
      have hset : (lof (rtab md ops).2.length O b).toArray.setIfInBounds i true = (lof (rtab md ops).2.length O (up b i)).toArray := by
        apply Array.ext'
        rw [Array.toList_setIfInBounds]
        exact lof_up hO
      rw [hset]
      refine ih (up b i) a' w' ?_ ?_ hI'
      · have := up_count (baseOk_nodup hk) (List.contains_iff_mem.1 hO) hb
        omega
      · intro d r hr hOd hbd n hn hOn
        by_cases hni : n = i
        · rw [hni, up_self]
        · rw [up_ne hni]
          by_cases hdi : d = i
          · subst hdi
            exact hneed r hr n hn (by have := (baseOk_row hk hr).2 n hn; omega) hOn
          · rw [up_ne hdi] at hbd
            exact hc d r hr hOd hbd n hn hOn
theorem putSel_size (b : Nat → Bool) : ∀ (L : List (Nat × Tmp × Value)) (a : Act), (putSel a b L).tmps.size = a.tmps.size ∧ (putSel a b L).defers = a.defers
  | [], a => ⟨rfl, rfl⟩
  | e :: r, a => by
    unfold putSel
    by_cases h : b e.1 = true
    · rw [if_pos h]
      have := putSel_size b r (a.put (some e.2.1) e.2.2)
      exact ⟨this.1.trans (by simp [Act.put]), this.2.trans rfl⟩
    · rw [if_neg h]
      exact putSel_size b r a
/-- A slot that no operation of the list fills. -/
theorem putSel_off {b : Nat → Bool} {t : Tmp} : ∀ {L : List (Nat × Tmp × Value)} {a : Act}, (L.all fun e => !(e.2.1 == t)) = true → (putSel a b L).tmps[t]? = a.tmps[t]?
  | [], _, _ => rfl
  | e :: r, a, h => by
    rw [List.all_cons, Bool.and_eq_true] at h
    have he : e.2.1 ≠ t := by simpa using h.1
    unfold putSel
    by_cases hb : b e.1 = true
    · rw [if_pos hb, putSel_off h.2]
      simp [Act.put, Array.getElem?_setIfInBounds_ne he]
    · rw [if_neg hb]
      exact putSel_off h.2
/-- A slot of a listed operation: k is its place in the list. -/
theorem putSel_on {b : Nat → Bool} {e : Nat × Tmp × Value} : ∀ {L : List (Nat × Tmp × Value)} {a : Act} (k : Nat), L[k]? = some e → ((L.drop (k + 1)).all fun x => !(x.2.1 == e.2.1)) = true → b e.1 = true → Nat.ble (e.2.1 + 1) a.tmps.size = true → (putSel a b L).tmps[e.2.1]? = some e.2.2
  | [], _, _, h, _, _, _ => by cases h
  | x :: r, a, 0, h, hd, hb, ht => by
    simp only [List.getElem?_cons_zero, Option.some.injEq] at h
    subst h
    unfold putSel
    rw [if_pos hb, putSel_off (by simpa using hd)]
    have ht2 : x.2.1 < a.tmps.size := Nat.le_of_ble_eq_true ht
    simp [Act.put, ht2]
  | x :: r, a, k + 1, h, hd, hb, ht => by
    unfold putSel
    refine putSel_on k (by simpa using h) (by simpa using hd) hb ?_
    by_cases hx : b x.1 = true
    · rw [if_pos hx]
      simpa [Act.put] using ht
    · rw [if_neg hx]
      exact ht
theorem put_comm {a : Act} {s t : Tmp} {u v : Value} (h : s ≠ t) : (a.put (some s) u).put (some t) v = (a.put (some t) v).put (some s) u := by
  simp only [Act.put]
  rw [Array.setIfInBounds_comm _ _ h]
theorem putSel_put {b : Nat → Bool} {t : Tmp} {v : Value} : ∀ {L : List (Nat × Tmp × Value)} {a : Act}, (L.all fun e => !(e.2.1 == t)) = true → (putSel a b L).put (some t) v = putSel (a.put (some t) v) b L
  | [], _, _ => rfl
  | e :: r, a, h => by
    rw [List.all_cons, Bool.and_eq_true] at h
    have he : e.2.1 ≠ t := by simpa using h.1
    unfold putSel
    by_cases hb : b e.1 = true
    · rw [if_pos hb, if_pos hb, putSel_put h.2, put_comm he]
    · rw [if_neg hb, if_neg hb]
      exact putSel_put h.2
theorem putSel_same {b : Nat → Bool} {i : Nat} : ∀ {L : List (Nat × Tmp × Value)} {a : Act}, (L.all fun e => !(e.1 == i)) = true → putSel a (up b i) L = putSel a b L
  | [], _, _ => rfl
  | e :: r, a, h => by
    rw [List.all_cons, Bool.and_eq_true] at h
    have he : e.1 ≠ i := by simpa using h.1
    unfold putSel
    rw [up_ne he]
    exact putSel_same h.2
/-- Operation i (its entry stands between L1 and L2) is listed: its destination is filled with v, whatever stood in its entry. -/
theorem putSel_up {b : Nat → Bool} {i : Nat} {t : Tmp} {v0 v : Value} : ∀ {L1 L2 : List (Nat × Tmp × Value)} {a : Act}, b i = false → ((L1 ++ L2).all fun e => !(e.1 == i) && !(e.2.1 == t)) = true →
    (putSel a b (L1 ++ (i, t, v0) :: L2)).put (some t) v = putSel a (up b i) (L1 ++ (i, t, v) :: L2)
  | [], L2, a, hb, h => by
    simp only [List.nil_append] at h ⊢
    have h1 : (L2.all fun e => !(e.1 == i)) = true := List.all_eq_true.2 (fun e he => by have := List.all_eq_true.1 h e he; simp only [Bool.and_eq_true] at this; exact this.1)
    have h2 : (L2.all fun e => !(e.2.1 == t)) = true := List.all_eq_true.2 (fun e he => by have := List.all_eq_true.1 h e he; simp only [Bool.and_eq_true] at this; exact this.2)
    unfold putSel
    rw [if_neg (by rw [hb]; decide), if_pos (up_self b i), putSel_put h2, putSel_same h1]
  | e :: r, L2, a, hb, h => by
    simp only [List.cons_append, List.all_cons, Bool.and_eq_true] at h
    have he : e.1 ≠ i := by simpa using h.1.1
    simp only [List.cons_append]
    unfold putSel
    rw [up_ne he]
    exact putSel_up hb h.2
/-- The same by its place k in the list. -/
theorem putSel_upk {b : Nat → Bool} {i : Nat} {t : Tmp} {v0 v : Value} {a : Act} {L L' : List (Nat × Tmp × Value)} (k : Nat) (hb : b i = false) (hL : L[k]? = some (i, t, v0)) (hL' : L.set k (i, t, v) = L') (hd : ((L.take k ++ L.drop (k + 1)).all fun e => !(e.1 == i) && !(e.2.1 == t)) = true) :
    (putSel a b L).put (some t) v = putSel a (up b i) L' := by
  have hk := (List.getElem?_eq_some_iff.1 hL).1
  have h1 : L = L.take k ++ (i, t, v0) :: L.drop (k + 1) := by
    have h2 : L[k] = (i, t, v0) := (List.getElem?_eq_some_iff.1 hL).2
    rw [← h2, List.getElem_cons_drop, List.take_append_drop]
  have h3 : L' = L.take k ++ (i, t, v) :: L.drop (k + 1) := by rw [← hL', List.set_eq_take_append_cons_drop, if_pos hk]
  rw [h3]
  conv => lhs; rw [h1]
  exact putSel_up hb hd
/-- THE REGION FROM HERE TO ITS END, by one relation I: l has all listed but O's operations; I holds with none of them listed; each step; with all listed what follows. -/
theorem inv_ {l : Array Bool} {fuel : Nat} {a : Act} {w : World} (O : List Nat) (I : (Nat → Bool) → Act → World → Prop) (hT : rtab md ops = T) (hw : waitsOk T.2 B = true) (hk : baseOk T.2 O = true)
    (hl : (lof T.2.length O (fun _ => false) == l.toList && O.length == fuel) = true) (h0 : I (fun _ => false) a w) (hs : ∀ i ∈ O, StepAt P ops Q B O I i)
    (hend : ∀ b a w, (∀ j, O.contains j = true → b j = true) → I b a w → Q .normal a w) : wpAnyLast P md ops Q (fun _ => True) [] fuel l a w := by
  rw [Bool.and_eq_true, beq_iff_eq, beq_iff_eq] at hl
  have h1 := inv_all hT hw hk I hs hend fuel (fun _ => false) a w (by rw [← hl.2]; simp) (fun d r _ _ hb => by cases hb) h0
  have h2 : (lof T.2.length O (fun _ => false)).toArray = l := by apply Array.ext'; exact hl.1
  rw [h2] at h1
  exact h1
end
end Go.Proofs.YtaaipbhfikefaaaDoorW.PrintLast
end

section
namespace Go.Proofs.YtaaipbhfikefaaaDoor.P
set_option linter.unusedVariables false
set_option linter.unusedSimpArgs false
open Go.RowKit Go.ChangeShapes Go.WideShapes Go.Proofs.YtaaipbhfikefaaaDoorW.PrintWords Go.Proofs.YtaaipbhfikefaaaDoorW.PrintLast Go.Proofs.YtaaipbhfikefaaaDoorW.PrintMore
/-- A row that the function holds: its block is known ahead of the region, or made in it (born); it may be stored to in it. -/
structure Ent where
  g : Nat
  born : Option Nat
  stored : Option Nat
  k : IntKind
  n : Nat
  f0 : Nat → Int
  f1 : Nat → Int
  t : TypeId
def Ent.ad (x : Ent) (G : Nat → Nat) : Nat := match x.born with
  | none => x.g
  | some i => G i
/-- What a slot comes to hold: a value, or a place in the block that operation i makes. -/
inductive SV where
  | val (v : Value)
  | new (i : Nat) (mk : Nat → Value)
def SV.ptr (i off : Nat) : SV := .new i fun g => .pointer (some ⟨g, off, none⟩)
def SV.sl (i n c : Nat) : SV := .new i fun g => .slice (some ⟨g, 0, none⟩) n c
def SV.at (G : Nat → Nat) : SV → Value
  | .val v => v
  | .new i mk => mk (G i)
def SV.of (i : Nat) : SV → Bool
  | .val _ => false
  | .new j _ => j == i
def vals (G : Nat → Nat) (L : List (Nat × Tmp × SV)) : List (Nat × Tmp × Value) := L.map fun e => (e.1, e.2.1, e.2.2.at G)
structure RowD where
  g : Nat
  k : IntKind
  n : Nat
  f : Nat → Int
  t : TypeId
/-- The rows of a function that was entered at wE. -/
def Held (wE w : World) (R : List RowD) : Prop := Below wE.heap.size wE w ∧ (∀ r ∈ R, wE.heap.size ≤ r.g ∧ Row w r.g r.k r.n r.f r.t) ∧ (R.map RowD.g).Nodup
def isOn (b : Nat → Bool) (d : Bool) : Option Nat → Bool
  | none => d
  | some i => b i
def Ent.f (x : Ent) (b : Nat → Bool) : Nat → Int := if isOn b false x.stored = true then x.f1 else x.f0
def RI (wE : World) (a0 : Act) (L : List (Nat × Tmp × SV)) (A : List Ent) (b : Nat → Bool) (a : Act) (w : World) : Prop :=
  ∃ G : Nat → Nat, a = putSel a0 b (vals G L) ∧ Below wE.heap.size wE w ∧ (∀ x ∈ A, isOn b true x.born = true → wE.heap.size ≤ x.ad G ∧ Row w (x.ad G) x.k x.n (x.f b) x.t) ∧
    A.Pairwise (fun x y => isOn b true x.born = true → isOn b true y.born = true → x.ad G ≠ y.ad G)
section
variable {P : Program} {ops : Array Oper} {Q : Exit → Act → World → Prop} {B O : List Nat} {wE : World} {a0 : Act} {L : List (Nat × Tmp × SV)} {A : List Ent} {i : Nat}
/-- What operation i waits for has come up. -/
def Ons (B O : List Nat) (i : Nat) (b : Nat → Bool) : Prop := ∀ j, (O.contains j && (B.getD i 0).testBit j) = true → b j = true
def Offs (B O : List Nat) (i : Nat) (b : Nat → Bool) : Prop := ∀ d, (O.contains d && (B.getD d 0).testBit i) = true → b d = false
theorem isOn_up {b : Nat → Bool} {d : Bool} {i : Nat} {o : Option Nat} (h : (o == some i) = false) : isOn (up b i) d o = isOn b d o := by
  cases o with
  | none => rfl
  | some j =>
    have hj : j ≠ i := fun e => by subst e; simp at h
    exact up_ne hj
/-- Each slot, and each operation, stands in L once. -/
def LOk (L : List (Nat × Tmp × SV)) : Prop := (L.map fun e => e.1).Nodup ∧ (L.map fun e => e.2.1).Nodup
theorem vals_get {G : Nat → Nat} {k : Nat} {e : Nat × Tmp × SV} (h : L[k]? = some e) : (vals G L)[k]? = some (e.1, e.2.1, e.2.2.at G) := by
  unfold vals
  rw [List.getElem?_map, h]; rfl
theorem LOk.drop {d : Nat} {t : Tmp} {v : SV} {k : Nat} (h : LOk L) (hL : L[k]? = some (d, t, v)) (G : Nat → Nat) : (((vals G L).drop (k + 1)).all fun x => !(x.2.1 == t)) = true := by
  rw [List.all_eq_true]
  intro e he
  obtain ⟨m, hm⟩ := List.getElem?_of_mem he
  rw [List.getElem?_drop] at hm
  unfold vals at hm
  rw [List.getElem?_map] at hm
  cases h2 : L[k + 1 + m]? with
  | none => rw [h2] at hm; cases hm
  | some e2 =>
    rw [h2] at hm
    obtain rfl := Option.some.inj hm
    have h3 := h.2
    rw [List.nodup_iff_pairwise_ne, List.pairwise_iff_getElem] at h3
    obtain ⟨hk, hke⟩ := List.getElem?_eq_some_iff.1 hL
    obtain ⟨hl, hle⟩ := List.getElem?_eq_some_iff.1 h2
    have := h3 k (k + 1 + m) (by simpa using hk) (by simpa using hl) (by omega)
    simp only [List.getElem_map, hke, hle] at this
    simpa using fun e => this e.symm
theorem LOk.rest {N : Tmp} {v : SV} {k : Nat} (h : LOk L) (hL : L[k]? = some (i, N, v)) (G : Nat → Nat) : (((vals G L).take k ++ (vals G L).drop (k + 1)).all fun e => !(e.1 == i) && !(e.2.1 == N)) = true := by
  rw [List.all_eq_true]
  intro e he
  obtain ⟨hk, hke⟩ := List.getElem?_eq_some_iff.1 hL
  have key : ∃ j, j ≠ k ∧ (vals G L)[j]? = some e := by
    rw [List.mem_append] at he
    rcases he with he | he
    · obtain ⟨m, hm⟩ := List.getElem?_of_mem he
      have hlt : m < k := by
        apply Decidable.byContradiction
        intro hn
        rw [List.getElem?_eq_none (by simp; omega)] at hm; cases hm
      exact ⟨m, by omega, by rw [List.getElem?_take_of_lt hlt] at hm; exact hm⟩
    · obtain ⟨m, hm⟩ := List.getElem?_of_mem he
      rw [List.getElem?_drop] at hm
      exact ⟨k + 1 + m, by omega, hm⟩
  obtain ⟨j, hj, hje⟩ := key
  unfold vals at hje
  rw [List.getElem?_map] at hje
  cases h2 : L[j]? with
  | none => rw [h2] at hje; cases hje
  | some e2 =>
    rw [h2] at hje
    obtain rfl := Option.some.inj hje
    obtain ⟨hl, hle⟩ := List.getElem?_eq_some_iff.1 h2
    have h3 := h.1
    have h4 := h.2
    rw [List.nodup_iff_pairwise_ne, List.pairwise_iff_getElem] at h3 h4
    have a1 : e2.1 ≠ i := by
      rcases Nat.lt_or_ge j k with hlt | hge
      · have := h3 j k (by simpa using hl) (by simpa using hk) hlt
        simpa only [List.getElem_map, hke, hle] using this
      · have := h3 k j (by simpa using hk) (by simpa using hl) (by omega)
        simp only [List.getElem_map, hke, hle] at this
        exact fun e => this e.symm
    have a2 : e2.2.1 ≠ N := by
      rcases Nat.lt_or_ge j k with hlt | hge
      · have := h4 j k (by simpa using hl) (by simpa using hk) hlt
        simpa only [List.getElem_map, hke, hle] using this
      · have := h4 k j (by simpa using hk) (by simpa using hl) (by omega)
        simp only [List.getElem_map, hke, hle] at this
        exact fun e => this e.symm
    simp [a1, a2]
theorem vals_setG {G : Nat → Nat} {N : Tmp} {k g : Nat} {mk : Nat → Value} (h : ((L.take k ++ L.drop (k + 1)).all fun e => !e.2.2.of i) = true) (hL : L[k]? = some (i, N, .new i mk)) : vals (fun j => if j = i then g else G j) L = (vals G L).set k (i, N, mk g) := by
  obtain ⟨hk, hke⟩ := List.getElem?_eq_some_iff.1 hL
  apply List.ext_getElem?
  intro j
  by_cases hj : j = k
  · subst hj
    rw [List.getElem?_set_self (by unfold vals; simpa using hk), vals_get hL]
    simp [SV.at]
  · rw [List.getElem?_set_ne (Ne.symm hj)]
    unfold vals
    rw [List.getElem?_map, List.getElem?_map]
    cases h2 : L[j]? with
    | none => rfl
    | some e =>
      have hm : e ∈ L.take k ++ L.drop (k + 1) := by
        rw [List.mem_append]
        by_cases hlt : j < k
        · left; exact List.mem_of_getElem? (i := j) (by rw [List.getElem?_take_of_lt hlt]; exact h2)
        · right; exact List.mem_of_getElem? (i := j - (k + 1)) (by rw [List.getElem?_drop]; rw [show k + 1 + (j - (k + 1)) = j by omega]; exact h2)
      have h3 := List.all_eq_true.1 h e hm
      obtain ⟨e1, e2, e3⟩ := e
      cases e3 with
      | val v => rfl
      | new p off =>
        simp only [SV.of, Bool.not_eq_true', beq_eq_false_iff_ne] at h3
        simp [SV.at, h3]
theorem ev_on {b : Nat → Bool} {G : Nat → Nat} {d : Nat} {t : Tmp} {v : SV} (hLo : LOk L) (k : Nat) (hL : L[k]? = some (d, t, v)) {sz : Nat} (hsz : a0.tmps.size = sz) (hs : Nat.ble (t + 1) sz = true) (hb : b d = true) : (putSel a0 b (vals G L)).eval (.tmp t) = v.at G := by
  subst hsz
  have h := putSel_on (a := a0) (b := b) (e := (d, t, v.at G)) k (vals_get hL) (hLo.drop hL G) hb hs
  show (putSel a0 b (vals G L)).tmps.getD t undef = v.at G
  rw [Array.getD_eq_getD_getElem?, h]
  rfl
theorem ev_off {b : Nat → Bool} {G : Nat → Nat} {t : Tmp} {v : Value} (h : (L.all fun e => !(e.2.1 == t)) = true) (hv : a0.eval (.tmp t) = v) : (putSel a0 b (vals G L)).eval (.tmp t) = v := by
  show (putSel a0 b (vals G L)).tmps.getD t undef = v
  rw [Array.getD_eq_getD_getElem?, putSel_off (by unfold vals; rw [List.all_map]; exact h), ← Array.getD_eq_getD_getElem?]
  exact hv
/-- A slot that an operation fills which hasn't come up yet. -/
theorem putSel_pre {b : Nat → Bool} {t : Tmp} : ∀ {M : List (Nat × Tmp × Value)} {a : Act}, (∀ e ∈ M, e.2.1 = t → b e.1 = false) → (putSel a b M).tmps[t]? = a.tmps[t]?
  | [], _, _ => rfl
  | e :: r, a, h => by
    unfold putSel
    by_cases hb : b e.1 = true
    · have he : e.2.1 ≠ t := fun h2 => by have := h e List.mem_cons_self h2; rw [hb] at this; cases this
      rw [if_pos hb, putSel_pre (fun x hx => h x (List.mem_cons_of_mem _ hx))]
      simp [Act.put, Array.getElem?_setIfInBounds_ne he]
    · rw [if_neg hb]
      exact putSel_pre (fun x hx => h x (List.mem_cons_of_mem _ hx))
theorem ev_pre {b : Nat → Bool} {G : Nat → Nat} {d : Nat} {t : Tmp} {sv : SV} {v : Value} (hLo : LOk L) (k : Nat) (hL : L[k]? = some (d, t, sv)) (hb : b d = false) (hv : a0.eval (.tmp t) = v) : (putSel a0 b (vals G L)).eval (.tmp t) = v := by
  show (putSel a0 b (vals G L)).tmps.getD t undef = v
  rw [Array.getD_eq_getD_getElem?, putSel_pre (fun e he h2 => ?_), ← Array.getD_eq_getD_getElem?]
  · exact hv
  · unfold vals at he
    obtain ⟨e2, he2, rfl⟩ := List.mem_map.1 he
    obtain ⟨j, hj⟩ := List.getElem?_of_mem he2
    obtain ⟨hk, hke⟩ := List.getElem?_eq_some_iff.1 hL
    obtain ⟨hl, hle⟩ := List.getElem?_eq_some_iff.1 hj
    have h4 := hLo.2
    rw [List.nodup_iff_pairwise_ne, List.pairwise_iff_getElem] at h4
    have : j = k := by
      apply Decidable.byContradiction
      intro hne
      rcases Nat.lt_or_ge j k with hlt | hge
      · have := h4 j k (by simpa using hl) (by simpa using hk) hlt
        simp only [List.getElem_map, hke, hle] at this
        exact this h2
      · have := h4 k j (by simpa using hk) (by simpa using hl) (by omega)
        simp only [List.getElem_map, hke, hle] at this
        exact this h2.symm
    subst this
    rw [hL] at hj
    obtain rfl := Option.some.inj hj
    exact hb
/-- An operation that fills its slot with a value that is known, and turns nothing that is held (it may make blocks). -/
theorem st_keep {N : Tmp} {oi : Oper} (k : Nat) (v : SV) (hoi : ops[i]? = some oi) (hN : oi.dst = some N) (hLo : LOk L) (hL : L[k]? = some (i, N, v))
    (hA : (A.all fun x => !(x.born == some i) && !(x.stored == some i)) = true)
    (hgo : ∀ b G w (K : Act → World → Prop), Below wE.heap.size wE w → Ons B O i b → Offs B O i b → (∀ x ∈ A, isOn b true x.born = true → wE.heap.size ≤ x.ad G ∧ Row w (x.ad G) x.k x.n (x.f b) x.t) →
      (∀ w', Below w.heap.size w w' → K ((putSel a0 b (vals G L)).put oi.dst (v.at G)) w') →
      if Region.wanted oi (yielded ops (putSel a0 b (vals G L)).tmps) = true then Oper.wp P oi (putSel a0 b (vals G L)) w K Q else K ((putSel a0 b (vals G L)).put oi.dst undef) w) :
    StepAt P ops Q B O (RI wE a0 L A) i := by
  rintro b a w ⟨G, rfl, hB, hR, hD⟩ hb hon hoff
  refine ⟨oi, hoi, fun K hK => hgo b G w K hB hon hoff hR (fun w' hw' => hK _ _ ⟨G, ?_, hB.trans (hw'.mono hB.size), fun x hx hbx => ?_, ?_⟩)⟩
  · rw [hN]
    exact putSel_upk k hb (vals_get hL) (by have h := vals_get (G := G) hL; obtain ⟨h1, h2⟩ := List.getElem?_eq_some_iff.1 h; rw [← h2]; exact List.set_getElem_self h1) (hLo.rest hL G)
  · have hx2 := List.all_eq_true.1 hA x hx
    simp only [Bool.and_eq_true, Bool.not_eq_true'] at hx2
    rw [isOn_up hx2.1] at hbx
    have h := hR x hx hbx
    have e : x.f (up b i) = x.f b := by unfold Ent.f; rw [isOn_up hx2.2]
    rw [e]
    exact ⟨h.1, h.2.below hw' h.2.lt⟩
  · refine hD.imp_of_mem (fun {x y} hx hy h h1 h2 => ?_)
    have hx2 := List.all_eq_true.1 hA x hx
    have hy2 := List.all_eq_true.1 hA y hy
    simp only [Bool.and_eq_true, Bool.not_eq_true'] at hx2 hy2
    rw [isOn_up hx2.1] at h1
    rw [isOn_up hy2.1] at h2
    exact h h1 h2
/-- A pure operation. -/
theorem st_run {N : Tmp} {oi : Oper} (k : Nat) (v : SV) (hoi : ops[i]? = some oi) (hN : oi.dst = some N) (hLo : LOk L) (hL : L[k]? = some (i, N, v))
    (hA : (A.all fun x => !(x.born == some i) && !(x.stored == some i)) = true)
    (hw : ∀ b G, Ons B O i b → Offs B O i b → Region.wanted oi (yielded ops (putSel a0 b (vals G L)).tmps) = true) (hrun : ∀ b G w, Ons B O i b → Offs B O i b → (execOp (putSel a0 b (vals G L)).eval oi).run P w = .ok (.value (v.at G)) w) : StepAt P ops Q B O (RI wE a0 L A) i :=
  st_keep k v hoi hN hLo hL hA (fun b G w K hB hon hoff hR hK => event_step (hw b G hon hoff) (hrun b G w hon hoff) (hK _ (Below.refl _ _)))
/-- What an entry holds at operation i. -/
def onB (B O : List Nat) (i : Nat) : Option Nat → Bool
  | none => true
  | some j => O.contains j && (B.getD i 0).testBit j
def offB (B O : List Nat) (i : Nat) : Option Nat → Bool
  | none => true
  | some s => O.contains s && (B.getD s 0).testBit i
theorem onB_is {b : Nat → Bool} {o : Option Nat} (h : onB B O i o = true) (hon : Ons B O i b) : isOn b true o = true := by
  cases o with
  | none => rfl
  | some j => exact hon j h
theorem offB_is {b : Nat → Bool} {o : Option Nat} (h : offB B O i o = true) (hoff : Offs B O i b) : isOn b false o = false := by
  cases o with
  | none => rfl
  | some j => exact hoff j h
theorem add_at (g off j : Nat) : (⟨g, off, none⟩ : Addr).add j = ⟨g, off + j, none⟩ := by
  unfold Addr.add
  split
  · subst j; rfl
  · rfl
theorem exec_load_at {o : Oper} {ev : Operand → Value} {w : World} {k : IntKind} {n : Nat} {f : Nat → Int} {ty : TypeId} {x : Operand} {ad : Addr} {d : TypeDesc}
    (hr : ∀ j, j < n → w.cell? (ad.add j) = some (.int k (f j))) (hu : P.underlying ty = some d) (hi : (P.info? ty).map (·.size) = some n) (hd : (match d with | .struct _ | .array _ _ => true | _ => false) = true) (ho : o.op = .load ty x) (hx : ev x = .pointer (some ad)) :
    (execOp ev o).run P w = .ok (.value (.agg (FR k n f))) w := by
  obtain ⟨ie, hie, hs⟩ : ∃ ie, P.info? ty = some ie ∧ ie.size = n := by
    cases he : P.info? ty with
    | none => rw [he] at hi; cases hi
    | some ie => rw [he] at hi; exact ⟨ie, rfl, Option.some.inj hi⟩
  have hti : (typeInfo ty).run P w = .ok ie w := by simp [typeInfo, hie]
  have ha : (isAgg ty).run P w = .ok true w := by
    simp only [isAgg, Sem.run_bind, run_underlying hu, Result.andThen_ok]
    cases d <;> simp_all
  have hl : (loadCells ad n).run P w = .ok (FR k n f) w := by
    have := run_loadCells_list (P := P) w ad (FR k n f).toList (fun j v hv => by
      rw [Array.getElem?_toList] at hv
      by_cases hj : j < n
      · rw [FR_at _ _ _ _ hj] at hv; rw [hr j hj]; exact hv
      · rw [FR_out _ _ _ _ hj] at hv; cases hv)
    rw [Array.length_toList, FR_size] at this
    simpa using this
  unfold execOp
  simp only [ho, hx, Instr.loadAt, Instr.sureAddr, Sem.run_bind, Sem.run_pure, Result.andThen_ok, loadVar, ha, sizeOf, hti, hs, hl, if_true]
theorem ad_setG {x : Ent} {G : Nat → Nat} {g : Nat} (h : (x.born == some i) = false) : x.ad (fun j => if j = i then g else G j) = x.ad G := by
  unfold Ent.ad
  cases hb : x.born with
  | none => rfl
  | some j =>
    rw [hb] at h
    have : j ≠ i := fun e => by subst e; simp at h
    simp [this]
/-- A load of m numbers at off in a row that is held: as it was ahead of the region. -/
theorem st_load0 {N : Tmp} {oi : Oper} (k : Nat) (r : Nat) (x : Ent) (off m : Nat) {ty : TypeId} {p : Operand} {d : TypeDesc} (hx : A[r]? = some x) (hoi : ops[i]? = some oi) (hN : oi.dst = some N) (ho : oi.op = .load ty p) (hw : ∀ b G, Ons B O i b → Offs B O i b → Region.wanted oi (yielded ops (putSel a0 b (vals G L)).tmps) = true)
    (hLo : LOk L) (hL : L[k]? = some (i, N, .val (.agg (FR x.k m fun j => x.f0 (off + j))))) (hA : (A.all fun x => !(x.born == some i) && !(x.stored == some i)) = true)
    (hbo : onB B O i x.born = true) (hst : offB B O i x.stored = true) (hm : off + m ≤ x.n) (hu : P.underlying ty = some d) (hi : (P.info? ty).map (·.size) = some m) (hdd : (match d with | .struct _ | .array _ _ => true | _ => false) = true)
    (hp : ∀ b G, Ons B O i b → Offs B O i b → (putSel a0 b (vals G L)).eval p = .pointer (some ⟨x.ad G, off, none⟩)) : StepAt P ops Q B O (RI wE a0 L A) i :=
  st_keep k (.val (.agg (FR x.k m fun j => x.f0 (off + j)))) hoi hN hLo hL hA (fun b G w K hB hon hoff hR hK => by
    have h := (hR x (List.mem_of_getElem? hx) (onB_is hbo hon)).2
    have e : x.f b = x.f0 := by unfold Ent.f; rw [offB_is hst hoff]; rfl
    rw [e] at h
    exact event_step (hw b G hon hoff) (exec_load_at (k := x.k) (n := m) (ad := ⟨x.ad G, off, none⟩) (f := fun j => x.f0 (off + j)) (fun j hj => by rw [add_at]; exact h.cell (off + j) (by omega)) hu hi hdd ho (hp b G hon hoff)) (hK _ (Below.refl _ _)))
/-- A call, by its contract. -/
theorem st_call {N : Tmp} {oi : Oper} (k : Nat) (v : Value) {f : FuncId} {fn : Func} {asx : Array Operand} {ts : Array TypeId} (args : Array Value) (hoi : ops[i]? = some oi) (hN : oi.dst = some N) (hop : oi.op = .call { callee := .value (.func f), args := asx, argTypes := ts }) (hw : ∀ b G, Ons B O i b → Offs B O i b → Region.wanted oi (yielded ops (putSel a0 b (vals G L)).tmps) = true)
    (hLo : LOk L) (hL : L[k]? = some (i, N, .val v)) (hA : (A.all fun x => !(x.born == some i) && !(x.stored == some i)) = true)
    (hf : P.funcs[f]? = some fn) (hname : (fn.name == "runtime.NumGoroutine") = false) (hbd : fn.body.isSome = true) (hargs : ∀ b G, Ons B O i b → Offs B O i b → asx.map (putSel a0 b (vals G L)).eval = args)
    (hc : ∀ w, Below wE.heap.size wE w → Calls P f args w fun e w' => e = .returned v ∧ Below w.heap.size w w') : StepAt P ops Q B O (RI wE a0 L A) i :=
  st_keep k (.val v) hoi hN hLo hL hA (fun b G w K hB hon hoff hR hK => goes_ hf hname hbd args (hw b G hon hoff) rfl hop (hargs b G hon hoff) ((hc w hB).mono (by
    rintro e w' ⟨rfl, hb⟩
    exact ⟨_, rfl, hK _ hb⟩)))
/-- An operation without a destination that turns nothing. -/
def setG (G : Nat → Nat) (i g : Nat) : Nat → Nat := fun j => if j = i then g else G j
/-- An alloc: entry k of the slots, row r of those held. -/
theorem st_alloc {N : Tmp} {oi : Oper} {mk : Nat → Value} (k r : Nat) (kk : IntKind) (n : Nat) (t : TypeId) (st : Option Nat) (f0 f1 : Nat → Int) (hoi : ops[i]? = some oi) (hN : oi.dst = some N) (hw : ∀ b G, Ons B O i b → Offs B O i b → Region.wanted oi (yielded ops (putSel a0 b (vals G L)).tmps) = true)
    (hx : A[r]? = some ⟨0, some i, st, kk, n, f0, f1, t⟩) (hLo : LOk L) (hL : L[k]? = some (i, N, .new i mk)) (hL' : ((L.take k ++ L.drop (k + 1)).all fun e => !e.2.2.of i) = true)
    (hA : ((A.take r ++ A.drop (r + 1)).all fun x => !(x.born == some i)) = true) (hAs : (A.all fun x => !(x.stored == some i)) = true)
    (hst : offB B O i st = true) (hrun : ∀ b G w, Ons B O i b → Offs B O i b → (execOp (putSel a0 b (vals G L)).eval oi).run P w = .ok (.value (mk w.heap.size)) (w.alloc (.cells (FR kk n f0) t))) :
    StepAt P ops Q B O (RI wE a0 L A) i := by
  rintro b a w ⟨G, rfl, hB, hR, hD⟩ hb hon hoff
  refine ⟨oi, hoi, fun K hK => event_step (hw b G hon hoff) (hrun b G w hon hoff) (hK _ _ ⟨setG G i w.heap.size, ?_, hB.alloc hB.size _, fun x hx' hbx => ?_, ?_⟩)⟩
  · rw [hN]
    exact putSel_upk k hb (vals_get hL) (vals_setG hL' hL).symm (hLo.rest hL G)
  · obtain ⟨j, hj⟩ := List.getElem?_of_mem hx'
    have hxs := List.all_eq_true.1 hAs x hx'
    rw [Bool.not_eq_true'] at hxs
    have e : x.f (up b i) = x.f b := by unfold Ent.f; rw [isOn_up hxs]
    rw [e]
    by_cases hjr : j = r
    · subst hjr
      rw [hx] at hj
      obtain rfl := Option.some.inj hj
      have e2 : (setG G i w.heap.size) i = w.heap.size := if_pos rfl
      have e3 : (⟨0, some i, st, kk, n, f0, f1, t⟩ : Ent).f b = f0 := by unfold Ent.f; rw [offB_is hst hoff]; rfl
      rw [e3]
      show wE.heap.size ≤ setG G i w.heap.size i ∧ Row _ (setG G i w.heap.size i) kk n _ t
      rw [e2]
      exact ⟨hB.size, Row.new _ _ _ _ _⟩
    · have hbx2 : (x.born == some i) = false ∧ isOn b true x.born = true := by
        have hm : x ∈ A.take r ++ A.drop (r + 1) := by
          rw [List.mem_append]
          by_cases hlt : j < r
          · left; exact List.mem_of_getElem? (i := j) (by rw [List.getElem?_take_of_lt hlt]; exact hj)
          · right; exact List.mem_of_getElem? (i := j - (r + 1)) (by rw [List.getElem?_drop]; rw [show r + 1 + (j - (r + 1)) = j by omega]; exact hj)
        have h2 := List.all_eq_true.1 hA x hm
        rw [Bool.not_eq_true'] at h2
        rw [isOn_up h2] at hbx
        exact ⟨h2, hbx⟩
      have h := hR x hx' hbx2.2
      rw [show x.ad (setG G i w.heap.size) = x.ad G from ad_setG hbx2.1]
      exact ⟨h.1, h.2.alloc _⟩
  · -- distinct
    rw [List.pairwise_iff_getElem] at hD ⊢
    intro j1 j2 h1 h2 hlt hb1 hb2
    have key : ∀ (j : Nat) (hj : j < A.length), j ≠ r → isOn (up b i) true (A[j]).born = true → isOn b true (A[j]).born = true ∧ (A[j]).ad (setG G i w.heap.size) = (A[j]).ad G ∧ (A[j]).ad G < w.heap.size := by
      intro j hj hjr hbj
      have hm : A[j] ∈ A.take r ++ A.drop (r + 1) := by
        rw [List.mem_append]
        by_cases hlt : j < r
        · left; exact List.mem_of_getElem? (i := j) (by rw [List.getElem?_take_of_lt hlt]; exact List.getElem?_eq_getElem hj)
        · right; exact List.mem_of_getElem? (i := j - (r + 1)) (by rw [List.getElem?_drop]; rw [show r + 1 + (j - (r + 1)) = j by omega]; exact List.getElem?_eq_getElem hj)
      have h2 := List.all_eq_true.1 hA _ hm
      rw [Bool.not_eq_true'] at h2
      rw [isOn_up h2] at hbj
      exact ⟨hbj, ad_setG h2, (hR _ (List.getElem_mem hj) hbj).2.lt⟩
    have hr := (List.getElem?_eq_some_iff.1 hx)
    obtain ⟨hrl, hre⟩ := hr
    have hself : (A[r]).ad (setG G i w.heap.size) = w.heap.size := by rw [hre]; exact if_pos rfl
    by_cases e1 : j1 = r
    · have hk2 := key j2 h2 (by omega) hb2
      subst e1
      rw [hself, hk2.2.1]; omega
    · have hk1 := key j1 h1 e1 hb1
      by_cases e2 : j2 = r
      · subst e2
        rw [hself, hk1.2.1]; omega
      · have hk2 := key j2 h2 e2 hb2
        rw [hk1.2.1, hk2.2.1]
        exact hD j1 j2 h1 h2 hlt hk1.1 hk2.1
/-- A store of a whole row. -/
theorem st_store {oi : Oper} (r : Nat) (x : Ent) {ty : TypeId} {p y : Operand} (hx : A[r]? = some x) (hxs : x.stored = some i) (hoi : ops[i]? = some oi) (hN : oi.dst = none) (ho : oi.op = .store ty p y) (hw : ∀ b G, Ons B O i b → Offs B O i b → Region.wanted oi (yielded ops (putSel a0 b (vals G L)).tmps) = true)
    (hL : (L.all fun e => !(e.1 == i)) = true) (hA : (A.all fun x => !(x.born == some i)) = true) (hAs : ((A.take r ++ A.drop (r + 1)).all fun x => !(x.stored == some i)) = true) (hbo : onB B O i x.born = true) (hi : (P.info? ty).map (·.size) = some x.n)
    (hp : ∀ b G, Ons B O i b → Offs B O i b → (putSel a0 b (vals G L)).eval p = .pointer (some ⟨x.ad G, 0, none⟩)) (hy : ∀ b G, Ons B O i b → Offs B O i b → (putSel a0 b (vals G L)).eval y = .agg (FR x.k x.n x.f1)) : StepAt P ops Q B O (RI wE a0 L A) i := by
  rintro b a w ⟨G, rfl, hB, hR, hD⟩ hb hon hoff
  have hxm := List.mem_of_getElem? hx
  have h0 := hR x hxm (onB_is hbo hon)
  refine ⟨oi, hoi, fun K hK => ?_⟩
  rw [hN]
  refine oper_storeG x.f1 h0.2 hi (hw b G hon hoff) hN ho (hp b G hon hoff) (hy b G hon hoff) (fun w' hs hr => hK _ _ ⟨G, (putSel_same (by unfold vals; rw [List.all_map]; exact hL)).symm, hs.bel _ _ h0.1 hB, fun z hz hbz => ?_, ?_⟩)
  · have hzb := List.all_eq_true.1 hA z hz
    rw [Bool.not_eq_true'] at hzb
    rw [isOn_up hzb] at hbz
    obtain ⟨j, hj⟩ := List.getElem?_of_mem hz
    by_cases hjr : j = r
    · subst hjr
      rw [hx] at hj
      obtain rfl := Option.some.inj hj
      have e : x.f (up b i) = x.f1 := by unfold Ent.f; rw [hxs]; exact if_pos (up_self b i)
      rw [e]
      exact ⟨h0.1, hr⟩
    · have hm : z ∈ A.take r ++ A.drop (r + 1) := by
        rw [List.mem_append]
        by_cases hlt : j < r
        · left; exact List.mem_of_getElem? (i := j) (by rw [List.getElem?_take_of_lt hlt]; exact hj)
        · right; exact List.mem_of_getElem? (i := j - (r + 1)) (by rw [List.getElem?_drop]; rw [show r + 1 + (j - (r + 1)) = j by omega]; exact hj)
      have h2 := List.all_eq_true.1 hAs z hm
      rw [Bool.not_eq_true'] at h2
      have e : z.f (up b i) = z.f b := by unfold Ent.f; rw [isOn_up h2]
      rw [e]
      have hz0 := hR z hz hbz
      refine ⟨hz0.1, hz0.2.stored hs ?_⟩
      rw [List.pairwise_iff_getElem] at hD
      obtain ⟨hjl, hje⟩ := List.getElem?_eq_some_iff.1 hj
      obtain ⟨hrl, hre⟩ := List.getElem?_eq_some_iff.1 hx
      by_cases hlt : j < r
      · have := hD j r hjl hrl hlt (by rw [hje]; exact hbz) (by rw [hre]; exact onB_is hbo hon)
        rwa [hje, hre] at this
      · have := hD r j hrl hjl (by omega) (by rw [hre]; exact onB_is hbo hon) (by rw [hje]; exact hbz)
        rw [hje, hre] at this
        exact fun e => this e.symm
  · refine hD.imp_of_mem (fun {z y} hz hy h h1 h2 => ?_)
    have hz2 := List.all_eq_true.1 hA z hz
    have hy2 := List.all_eq_true.1 hA y hy
    rw [Bool.not_eq_true'] at hz2 hy2
    rw [isOn_up hz2] at h1
    rw [isOn_up hy2] at h2
    exact h h1 h2
noncomputable def Ent.row (x : Ent) (G : Nat → Nat) : RowD := ⟨@Option.rec Nat (fun _ => Nat) x.g (fun i => G i) x.born, x.k, x.n, @Option.rec Nat (fun _ => Nat → Int) x.f0 (fun _ => x.f1) x.stored, x.t⟩
theorem Ent.row_g (x : Ent) (G : Nat → Nat) : (x.row G).g = x.ad G := by cases x with | mk g born stored k n f0 f1 t => cases born <;> rfl
theorem Ent.row_f (x : Ent) (G : Nat → Nat) : (x.row G).f = if x.stored.isSome then x.f1 else x.f0 := by cases x with | mk g born stored k n f0 f1 t => cases stored <;> rfl
def Ent.row0 (x : Ent) : RowD := ⟨x.g, x.k, x.n, x.f0, x.t⟩
theorem putSel_nil {b : Nat → Bool} : ∀ {M : List (Nat × Tmp × Value)} {a : Act}, (∀ e, b e = false) → putSel a b M = a
  | [], _, _ => rfl
  | e :: r, a, h => by
    unfold putSel
    rw [if_neg (by rw [h]; decide)]
    exact putSel_nil h
/-- It holds where none has come up. -/
theorem RI.start {w : World} {R : List RowD} (hH : Held wE w R) (hR : (A.filter fun x => x.born == none).map Ent.row0 = R) : RI wE a0 L A (fun _ => false) a0 w := by
  obtain ⟨h1, h2, h3⟩ := hH
  subst hR
  refine ⟨fun _ => 0, (putSel_nil (fun _ => rfl)).symm, h1, fun x hx hbx => ?_, ?_⟩
  · have hb0 : x.born = none := by
      cases h : x.born with
      | none => rfl
      | some j => rw [h] at hbx; cases hbx
    have hm : x.row0 ∈ (A.filter fun x => x.born == none).map Ent.row0 := List.mem_map.2 ⟨x, List.mem_filter.2 ⟨hx, by rw [hb0]; rfl⟩, rfl⟩
    have h := h2 _ hm
    have e : x.f (fun _ => false) = x.f0 := by unfold Ent.f; cases x.stored <;> rfl
    rw [e]
    have e2 : x.ad (fun _ => 0) = x.g := by unfold Ent.ad; rw [hb0]
    rw [e2]
    exact h
  · rw [List.map_map] at h3
    have h4 := (List.nodup_iff_pairwise_ne.1 h3)
    rw [List.pairwise_map, List.pairwise_filter] at h4
    refine h4.imp (fun {x y} h h1 h2 => ?_)
    have hx0 : x.born = none := by
      cases hh : x.born with
      | none => rfl
      | some j => rw [hh] at h1; cases h1
    have hy0 : y.born = none := by
      cases hh : y.born with
      | none => rfl
      | some j => rw [hh] at h2; cases h2
    have e1 : x.ad (fun _ => 0) = x.g := by unfold Ent.ad; rw [hx0]
    have e2 : y.ad (fun _ => 0) = y.g := by unfold Ent.ad; rw [hy0]
    rw [e1, e2]
    exact h (by rw [hx0]; rfl) (by rw [hy0]; rfl)
/-- What slots hold. -/
def Sl (a : Act) (sz : Nat) (S : List (Tmp × Value)) : Prop := a.tmps.size = sz ∧ a.defers = [] ∧ ∀ e ∈ S, a.eval (.tmp e.1) = e.2
theorem Sl.get {a : Act} {sz : Nat} {S : List (Tmp × Value)} (h : Sl a sz S) {t : Tmp} {v : Value} (k : Nat) (hk : S[k]? = some (t, v)) : a.eval (.tmp t) = v := h.2.2 _ (List.mem_of_getElem? hk)
/-- The slots told of behind the region: out of L, or as they were. -/
def SlOk (L : List (Nat × Tmp × SV)) (S : List (Tmp × Value)) : List (Tmp × SV) → Prop
  | [] => True
  | e :: r => ((∃ d ∈ L, d.2 = (e.1, e.2)) ∨ ((L.all fun d => !(d.2.1 == e.1)) = true ∧ ∃ v, e.2 = .val v ∧ (e.1, v) ∈ S)) ∧ SlOk L S r
theorem slL {S : List (Tmp × Value)} {e : Tmp × SV} {r : List (Tmp × SV)} (k : Nat) {d : Nat} (h : L[k]? = some (d, e.1, e.2)) (hr : SlOk L S r) : SlOk L S (e :: r) := ⟨.inl ⟨_, List.mem_of_getElem? h, rfl⟩, hr⟩
theorem slS {S : List (Tmp × Value)} {t : Tmp} {v : Value} {r : List (Tmp × SV)} (k : Nat) (h : S[k]? = some (t, v)) (ho : (L.all fun d => !(d.2.1 == t)) = true) (hr : SlOk L S r) : SlOk L S ((t, .val v) :: r) := ⟨.inr ⟨ho, v, rfl, List.mem_of_getElem? h⟩, hr⟩
theorem SlOk.mem {S : List (Tmp × Value)} : ∀ {M : List (Tmp × SV)}, SlOk L S M → ∀ e ∈ M, (∃ d ∈ L, d.2 = (e.1, e.2)) ∨ ((L.all fun d => !(d.2.1 == e.1)) = true ∧ ∃ v, e.2 = .val v ∧ (e.1, v) ∈ S)
  | [], _, e, he => by cases he
  | x :: r, h, e, he => by
    rcases List.mem_cons.1 he with rfl | he
    · exact h.1
    · exact h.2.mem e he
/-- It holds where all have. -/
theorem RI.fin {b : Nat → Bool} {a : Act} {w : World} {sz : Nat} {S : List (Tmp × Value)} {S' : List (Tmp × SV)} (h : RI wE a0 L A b a w) (hO : ∀ j, O.contains j = true → b j = true) (hA : (A.all fun x => (match x.born with | none => true | some j => O.contains j) && (match x.stored with | none => true | some j => O.contains j)) = true)
    (hLo : LOk L) (hL : (L.all fun e => O.contains e.1 && Nat.ble (e.2.1 + 1) sz) = true) (hS : Sl a0 sz S) (hS' : SlOk L S S') : ∃ G, Sl a sz (S'.map fun e => (e.1, e.2.at G)) ∧ Held wE w (A.map fun x => x.row G) := by
  obtain ⟨G, rfl, hB, hR, hD⟩ := h
  have hbo : ∀ x ∈ A, isOn b true x.born = true := fun x hx => by
    have := List.all_eq_true.1 hA x hx
    rw [Bool.and_eq_true] at this
    cases hh : x.born with
    | none => rfl
    | some j => rw [hh] at this; exact hO j this.1
  have hf : ∀ x ∈ A, x.f b = if x.stored.isSome then x.f1 else x.f0 := fun x hx => by
    have := List.all_eq_true.1 hA x hx
    rw [Bool.and_eq_true] at this
    unfold Ent.f
    cases hh : x.stored with
    | none => rfl
    | some j => rw [hh] at this; simp only [isOn, hO j this.2, Option.isSome_some]
  refine ⟨G, ⟨(putSel_size b _ _).1.trans hS.1, (putSel_size b _ _).2.trans hS.2.1, fun e he => ?_⟩, hB, fun r hr => ?_, ?_⟩
  · obtain ⟨e2, he2, rfl⟩ := List.mem_map.1 he
    rcases hS'.mem e2 he2 with ⟨d, hd, hde⟩ | ⟨ho, v, hv, hm⟩
    · obtain ⟨k, hk⟩ := List.getElem?_of_mem hd
      have h1 := List.all_eq_true.1 hL d hd
      rw [Bool.and_eq_true] at h1
      obtain ⟨d1, d2, d3⟩ := d
      obtain ⟨e1, e3⟩ := e2
      obtain ⟨rfl, rfl⟩ := Prod.mk.inj hde
      exact ev_on hLo k hk hS.1 h1.2 (hO d1 h1.1)
    · obtain ⟨e1, e3⟩ := e2
      simp only at ho hv hm ⊢
      subst hv
      exact ev_off ho (hS.2.2 _ hm)
  · obtain ⟨x, hx, rfl⟩ := List.mem_map.1 hr
    have h := hR x hx (hbo x hx)
    rw [hf x hx] at h
    rw [Ent.row_g, Ent.row_f]
    exact h
  · rw [List.map_map, List.nodup_iff_pairwise_ne, List.pairwise_map]
    refine hD.imp_of_mem (fun {x y} hx hy h => ?_)
    show (x.row G).g ≠ (y.row G).g
    rw [Ent.row_g, Ent.row_g]
    exact h (hbo x hx) (hbo y hy)
/-- A drawn region from here to its end. -/
theorem region_ {T : Bool × List (List Nat × List Nat)} {w : World} {R : List RowD} {id n sz : Nat} {S : List (Tmp × Value)} (O : List Nat) (S' : List (Tmp × SV)) (L : List (Nat × Tmp × SV)) (A : List Ent) (hm : P.follows .mixedOrders = true) (hn : ops.size = n) (hT : rtab .any ops = T) (hw : waitsOk T.2 B = true) (hk : baseOk T.2 O = true) (hl : (lof T.2.length O (fun _ => false) == List.replicate n false && O.length == n) = true)
    (hH : Held wE w R) (hR : (A.filter fun x => x.born == none).map Ent.row0 = R) (hA : (A.all fun x => (match x.born with | none => true | some j => O.contains j) && (match x.stored with | none => true | some j => O.contains j)) = true) (hLo : LOk L) (hL : (L.all fun e => O.contains e.1 && Nat.ble (e.2.1 + 1) sz) = true) (hS : Sl a0 sz S) (hS' : SlOk L S S')
    (hs : ∀ i ∈ O, StepAt P ops Q B O (RI wE a0 L A) i) (hend : ∀ G a' w', Sl a' sz (S'.map fun e => (e.1, e.2.at G)) → Held wE w' (A.map fun x => x.row G) → Q .normal a' w') : (Code.region id ops true).wp P Q a0 w := by
  refine start_ (n := n) (S := fun _ => True) (ds := []) (Array.replicate n false) hm hn rfl trivial (fun _ => ?_)
  have hH' : Held wE w.drew R := ⟨hH.1.drew, fun r hr => ⟨(hH.2.1 r hr).1, (hH.2.1 r hr).2⟩, hH.2.2⟩
  refine inv_ O (RI wE a0 L A) hT hw hk (by simpa using hl) (RI.start hH' hR) hs (fun b a' w' hall hI => ?_)
  obtain ⟨G, h1, h2⟩ := hI.fin hall hA hLo hL hS hS'
  exact hend G a' w' h1 h2
/-- A region in its order. -/
theorem list_all (B : List Nat) (I : (Nat → Bool) → Act → World → Prop) (hs : ∀ i ∈ List.range ops.size, StepAt P ops Q B (List.range ops.size) I i)
    (hB : ∀ i j, (List.range ops.size).contains j = true → (B.getD i 0).testBit j = true → j < i) (hend : ∀ a w, I (fun j => decide (j < ops.size)) a w → Q .normal a w) :
    ∀ (m k : Nat) (a : Act) (w : World), k + m = ops.size → I (fun j => decide (j < k)) a w → wpList P ops Q (ops.toList.drop k) a w
  | 0, k, a, w, hk, hI => by
    have e : ops.toList.drop k = [] := by rw [List.drop_eq_nil_iff]; simp; omega
    rw [e]
    have e2 : k = ops.size := by omega
    subst e2
    exact hend a w hI
  | m + 1, k, a, w, hk, hI => by
    have hlt : k < ops.toList.length := by simp; omega
    rw [List.drop_eq_getElem_cons hlt]
    obtain ⟨oi, hoi, h⟩ := hs k (List.mem_range.2 (by omega)) _ a w hI (by simp) (fun j hj => by
      rw [Bool.and_eq_true] at hj
      simpa using hB k j hj.1 hj.2) (fun d hd => by
      rw [Bool.and_eq_true] at hd
      have := hB d k (by simp; omega) hd.2
      simp; omega)
    have e : ops.toList[k] = oi := by
      have h1 := List.getElem?_eq_getElem hlt
      rw [Array.getElem?_toList, hoi] at h1
      exact (Option.some.inj h1).symm
    rw [e]
    refine wpList_step (fun K hK => h K (fun a' w' hI' => hK a' w' (list_all B I hs hB hend m (k + 1) a' w' (by omega) ?_)))
    have e2 : (fun j => decide (j < k + 1)) = up (fun j => decide (j < k)) k := by
      funext j
      unfold up
      split
      · subst j; simp
      · rename_i hne
        have : (j < k + 1) = (j < k) := by apply propext; omega
        simp only [this]
    rw [e2]
    exact hI'
def lowB (B : List Nat) (n : Nat) : Bool := (List.range B.length).all fun i => (B.getD i 0) < 2 ^ i
theorem lowB_is {n : Nat} (h : lowB B n = true) (i j : Nat) (hj : (B.getD i 0).testBit j = true) : j < i := by
  by_cases hi : i < B.length
  · have h1 := List.all_eq_true.1 h i (List.mem_range.2 hi)
    rw [decide_eq_true_eq] at h1
    apply Decidable.byContradiction
    intro hn
    have : (B.getD i 0).testBit j = false := Nat.testBit_lt_two_pow (Nat.lt_of_lt_of_le h1 (Nat.pow_le_pow_right (by omega) (by omega)))
    rw [this] at hj; cases hj
  · rw [List.getD_eq_getElem?_getD, List.getElem?_eq_none (by omega)] at hj
    simp at hj
/-- A region in its order, from its begin to its end. -/
theorem plain_ {w : World} {R : List RowD} {id n sz : Nat} {S : List (Tmp × Value)} (B : List Nat) (S' : List (Tmp × SV)) (L : List (Nat × Tmp × SV)) (A : List Ent) (hn : ops.size = n) (hB : lowB B n = true)
    (hH : Held wE w R) (hR : (A.filter fun x => x.born == none).map Ent.row0 = R) (hA : (A.all fun x => (match x.born with | none => true | some j => (List.range n).contains j) && (match x.stored with | none => true | some j => (List.range n).contains j)) = true) (hLo : LOk L) (hL : (L.all fun e => (List.range n).contains e.1 && Nat.ble (e.2.1 + 1) sz) = true) (hS : Sl a0 sz S) (hS' : SlOk L S S')
    (hs : ∀ i ∈ List.range n, StepAt P ops Q B (List.range n) (RI wE a0 L A) i) (hend : ∀ G a' w', Sl a' sz (S'.map fun e => (e.1, e.2.at G)) → Held wE w' (A.map fun x => x.row G) → Q .normal a' w') : (Code.region id ops false).wp P Q a0 w := by
  subst hn
  refine wp_region_list ?_
  have h := list_all (P := P) (Q := Q) (ops := ops) B (RI wE a0 L A) hs (fun i j _ hj => lowB_is hB i j hj) (fun a w hI => by
    obtain ⟨G, h1, h2⟩ := hI.fin (O := List.range ops.size) (fun j hj => by simpa using hj) hA hLo hL hS hS'
    exact hend G a w h1 h2) ops.size 0 a0 w (by omega) (by
      have e : (fun j : Nat => decide (j < 0)) = fun _ => false := by funext j; simp
      rw [e]
      exact RI.start hH hR)
  simpa using h
theorem then_ {K : Act → World → Prop} {a : Act} {w : World} (h : K a w) : Exit.then K Q .normal a w := h
theorem then_ret {K : Act → World → Prop} {a : Act} {w : World} (h : Q .ret a w) : Exit.then K Q .ret a w := h
theorem args0 {ev : Operand → Value} : (#[] : Array Operand).map ev = #[] := by simp
theorem args1 {ev : Operand → Value} {x : Operand} {u : Value} (h : ev x = u) : #[x].map ev = #[u] := by simp [h]
theorem args2 {ev : Operand → Value} {x y : Operand} {u v : Value} (h : ev x = u) (h2 : ev y = v) : #[x, y].map ev = #[u, v] := by simp [h, h2]
/-- An operation whose run is known where its operands are. -/
theorem exec_box {o : Oper} {ev : Operand → Value} {w : World} {ty : TypeId} {x : Operand} {v : Value} {p : Value} {w' : World} (ho : o.op = .box ty x) (hx : ev x = v) (h : (Instr.box ty v).run P w = .ok p w') : (execOp ev o).run P w = .ok (.value p) w' := by
  unfold execOp
  simp only [ho, hx, Sem.run_bind, Sem.run_pure, h, Result.andThen_ok]
theorem exec_build {o : Oper} {ev : Operand → Value} {w : World} {ty : TypeId} {parts : Array (Nat × Operand)} {ps : Array (Nat × Value)} {v : Value} (ho : o.op = .build ty parts) (hx : (parts.map fun (i, x) => (i, ev x)) = ps) (h : (Instr.build ty ps).run P w = .ok v w) : (execOp ev o).run P w = .ok (.value v) w := by
  unfold execOp
  simp only [ho, hx, Sem.run_bind, Sem.run_pure, h, Result.andThen_ok]
theorem exec_field {o : Oper} {ev : Operand → Value} {w : World} {ty : TypeId} {x : Operand} {p v : Value} {n : Nat} (ho : o.op = .fieldAddr ty x n) (hx : ev x = p) (h : (Instr.fieldAt ty p n).run P w = .ok v w) : (execOp ev o).run P w = .ok (.value v) w := by
  unfold execOp
  simp only [ho, hx, Sem.run_bind, Sem.run_pure, h, Result.andThen_ok]
theorem parts4 {ev : Operand → Value} {x y z a : Operand} {u v t s : Value} (h : ev x = u) (h2 : ev y = v) (h3 : ev z = t) (h4 : ev a = s) : ((#[(0, x), (1, y), (2, z), (3, a)] : Array (Nat × Operand)).map fun (i, x) => (i, ev x)) = #[(0, u), (1, v), (2, t), (3, s)] := by simp [h, h2, h3, h4]
theorem parts0 {ev : Operand → Value} : ((#[] : Array (Nat × Operand)).map fun (i, x) => (i, ev x)) = #[] := by simp
theorem parts1 {ev : Operand → Value} {i : Nat} {x : Operand} {u : Value} (h : ev x = u) : ((#[(i, x)] : Array (Nat × Operand)).map fun (i, x) => (i, ev x)) = #[(i, u)] := by simp [h]
theorem parts2 {ev : Operand → Value} {i j : Nat} {x y : Operand} {u v : Value} (h : ev x = u) (h2 : ev y = v) : ((#[(i, x), (j, y)] : Array (Nat × Operand)).map fun (i, x) => (i, ev x)) = #[(i, u), (j, v)] := by simp [h, h2]
theorem Held.first (w : World) : Held w w [] := ⟨Below.refl _ _, fun _ h => (by cases h), List.nodup_nil⟩
theorem Held.row {wE w : World} {R : List RowD} (h : Held wE w R) (k : Nat) {r : RowD} (hk : R[k]? = some r) : Row w r.g r.k r.n r.f r.t := (h.2.1 r (List.mem_of_getElem? hk)).2
/-- A load of a whole row. -/
theorem st_row0 {N : Tmp} {oi : Oper} (k : Nat) (r : Nat) (x : Ent) {ty : TypeId} {p : Operand} {d : TypeDesc} (hx : A[r]? = some x) (hoi : ops[i]? = some oi) (hN : oi.dst = some N) (ho : oi.op = .load ty p) (hw : ∀ b G, Ons B O i b → Offs B O i b → Region.wanted oi (yielded ops (putSel a0 b (vals G L)).tmps) = true)
    (hLo : LOk L) (hL : L[k]? = some (i, N, .val (.agg (FR x.k x.n x.f0)))) (hA : (A.all fun x => !(x.born == some i) && !(x.stored == some i)) = true)
    (hbo : onB B O i x.born = true) (hst : offB B O i x.stored = true) (hu : P.underlying ty = some d) (hi : (P.info? ty).map (·.size) = some x.n) (hdd : (match d with | .struct _ | .array _ _ => true | _ => false) = true)
    (hp : ∀ b G, Ons B O i b → Offs B O i b → (putSel a0 b (vals G L)).eval p = .pointer (some ⟨x.ad G, 0, none⟩)) : StepAt P ops Q B O (RI wE a0 L A) i :=
  st_keep k (.val (.agg (FR x.k x.n x.f0))) hoi hN hLo hL hA (fun b G w K hB hon hoff hR hK => by
    have h := (hR x (List.mem_of_getElem? hx) (onB_is hbo hon)).2
    have e : x.f b = x.f0 := by unfold Ent.f; rw [offB_is hst hoff]; rfl
    rw [e] at h
    exact event_step (hw b G hon hoff) (exec_load h hu hi hdd ho (hp b G hon hoff)) (hK _ (Below.refl _ _)))
/-- A load of what stays as it is below the entry (a table). -/
theorem st_table {N : Tmp} {oi : Oper} (k : Nat) {ty : TypeId} {p : Operand} {d : TypeDesc} {kk : IntKind} {n g : Nat} {f : Nat → Int} (hoi : ops[i]? = some oi) (hN : oi.dst = some N) (ho : oi.op = .load ty p) (hw : ∀ b G, Ons B O i b → Offs B O i b → Region.wanted oi (yielded ops (putSel a0 b (vals G L)).tmps) = true)
    (hLo : LOk L) (hL : L[k]? = some (i, N, .val (.agg (FR kk n f)))) (hA : (A.all fun x => !(x.born == some i) && !(x.stored == some i)) = true) (hu : P.underlying ty = some d) (hi : (P.info? ty).map (·.size) = some n) (hdd : (match d with | .struct _ | .array _ _ => true | _ => false) = true)
    (hT : ∀ w, Below wE.heap.size wE w → ∀ j, j < n → w.cell? ((⟨g, 0, none⟩ : Addr).add j) = some (.int kk (f j))) (hp : p = .global g) : StepAt P ops Q B O (RI wE a0 L A) i :=
  st_keep k (.val (.agg (FR kk n f))) hoi hN hLo hL hA (fun b G w K hB hon hoff hR hK => by
    subst hp
    exact event_step (hw b G hon hoff) (exec_load_at (hT w hB) hu hi hdd ho rfl) (hK _ (Below.refl _ _)))
def argS (args : Array Value) : List (Tmp × Value) := args.toList.zipIdx.map fun e => (e.2, e.1)
theorem enter_ {f : FuncId} {fn : Func} {c : Code} {args : Array Value} {w : World} {R : Ending → World → Prop} (sz : Nat) (hf : P.funcs[f]? = some fn) (hb : fn.body = some c) (hsz : args.size + (fn.ntmps - args.size) = sz)
    (h : ∀ a, Sl a sz (argS args) → c.wp P (bodyPost P fn R) a w) : Calls P f args w R := by
  refine calls_of_wp hf hb (h _ ⟨by simpa using hsz, rfl, fun e he => ?_⟩)
  unfold argS at he
  obtain ⟨⟨v, j⟩, hm, rfl⟩ := List.mem_map.1 he
  have h1 := List.mem_zipIdx_iff_getElem?.1 hm
  simp only at h1
  have h2 : args[j]? = some v := by rw [← Array.getElem?_toList]; exact h1
  have hlt : j < args.size := (Array.getElem?_eq_some_iff.1 h2).1
  show (args ++ Array.replicate (fn.ntmps - args.size) undef).getD j undef = v
  rw [Array.getD_eq_getD_getElem?, Array.getElem?_append_left hlt, h2]
  rfl
/-- The end: a row is the result. -/
theorem ret_row {fn : Func} {R : Ending → World → Prop} {p : Tmp} {ty : TypeId} {a : Act} {w : World} {g n : Nat} {k : IntKind} {f : Nat → Int} {t : TypeId} {d : TypeDesc} (h : fn.results = #[.cell p ty]) (hd : a.defers = []) (hp : a.eval (.tmp p) = .pointer (some ⟨g, 0, none⟩)) (hr : Row w g k n f t)
    (hu : P.underlying ty = some d) (hdd : (match d with | .struct _ | .array _ _ => true | _ => false) = true) (hi : (P.info? ty).map (·.size) = some n) (hR : R (.returned (.agg (FR k n f))) w) : Code.ret.wp P (bodyPost P fn R) a w :=
  wp_ret ⟨hd, _, row_results h hr hp hu hdd hi, hR⟩
/-- A guard that lets the operation come up, or doesn't. -/
theorem wanted_is {b : Nat → Bool} {G : Nat → Nat} {oi oj : Oper} {j : Nat} {t u : Bool} {N : Tmp} (hg : oi.guard = some (j, t)) (hoj : ops[j]? = some oj) (hN : oj.dst = some N) {sz : Nat} (hsz : a0.tmps.size = sz) (hs : Nat.ble (N + 1) sz = true) (hv : (putSel a0 b (vals G L)).eval (.tmp N) = .bool u) {r : Bool} (hr : (u == t) = r) :
    Region.wanted oi (yielded ops (putSel a0 b (vals G L)).tmps) = r := by
  have hlt : N < (putSel a0 b (vals G L)).tmps.size := by rw [(putSel_size b _ _).1, hsz]; exact Nat.le_of_ble_eq_true hs
  have h1 : (putSel a0 b (vals G L)).tmps[N]? = some (.bool u) := by
    have h2 : (putSel a0 b (vals G L)).tmps.getD N undef = .bool u := hv
    rw [Array.getD_eq_getD_getElem?, Array.getElem?_eq_getElem hlt] at h2
    rw [Array.getElem?_eq_getElem hlt]
    exact congrArg some h2
  unfold Region.wanted yielded
  simp only [hg, hoj, Option.bind_some, hN, h1]
  subst hr
  cases u <;> cases t <;> rfl
/-- A guard whose slot wasn't filled: its operation was kept off, too. -/
theorem wanted_un {b : Nat → Bool} {G : Nat → Nat} {oi oj : Oper} {j : Nat} {t : Bool} {N : Tmp} (hg : oi.guard = some (j, t)) (hoj : ops[j]? = some oj) (hN : oj.dst = some N) {sz : Nat} (hsz : a0.tmps.size = sz) (hs : Nat.ble (N + 1) sz = true) (hv : (putSel a0 b (vals G L)).eval (.tmp N) = undef) :
    Region.wanted oi (yielded ops (putSel a0 b (vals G L)).tmps) = false := by
  have hlt : N < (putSel a0 b (vals G L)).tmps.size := by rw [(putSel_size b _ _).1, hsz]; exact Nat.le_of_ble_eq_true hs
  have h1 : (putSel a0 b (vals G L)).tmps[N]? = some undef := by
    have h2 : (putSel a0 b (vals G L)).tmps.getD N undef = undef := hv
    rw [Array.getD_eq_getD_getElem?, Array.getElem?_eq_getElem hlt] at h2
    rw [Array.getElem?_eq_getElem hlt]
    exact congrArg some h2
  unfold Region.wanted yielded
  simp only [hg, hoj, Option.bind_some, hN, h1]
  cases t <;> rfl
/-- An operation that its guard keeps off. -/
theorem st_skip {N : Tmp} {oi : Oper} (k : Nat) (hoi : ops[i]? = some oi) (hN : oi.dst = some N) (hLo : LOk L) (hL : L[k]? = some (i, N, .val undef)) (hA : (A.all fun x => !(x.born == some i) && !(x.stored == some i)) = true)
    (hw : ∀ b G, Ons B O i b → Offs B O i b → Region.wanted oi (yielded ops (putSel a0 b (vals G L)).tmps) = false) : StepAt P ops Q B O (RI wE a0 L A) i :=
  st_keep k (.val undef) hoi hN hLo hL hA (fun b G w K hB hon hoff hR hK => by
    rw [if_neg (by rw [hw b G hon hoff]; decide)]
    exact hK w (Below.refl _ _))
/-- A pure operation that looks at what is held. -/
theorem st_read {N : Tmp} {oi : Oper} (k r : Nat) (x : Ent) (v : SV) (hx : A[r]? = some x) (hoi : ops[i]? = some oi) (hN : oi.dst = some N) (hLo : LOk L) (hL : L[k]? = some (i, N, v))
    (hA : (A.all fun x => !(x.born == some i) && !(x.stored == some i)) = true) (hw : ∀ b G, Ons B O i b → Offs B O i b → Region.wanted oi (yielded ops (putSel a0 b (vals G L)).tmps) = true)
    (hbo : onB B O i x.born = true) (hst : offB B O i x.stored = true) (hrun : ∀ b G w, Ons B O i b → Offs B O i b → Row w (x.ad G) x.k x.n x.f0 x.t → (execOp (putSel a0 b (vals G L)).eval oi).run P w = .ok (.value (v.at G)) w) : StepAt P ops Q B O (RI wE a0 L A) i :=
  st_keep k v hoi hN hLo hL hA (fun b G w K hB hon hoff hR hK => by
    have h := (hR x (List.mem_of_getElem? hx) (onB_is hbo hon)).2
    have e : x.f b = x.f0 := by unfold Ent.f; rw [offB_is hst hoff]; rfl
    rw [e] at h
    exact event_step (hw b G hon hoff) (hrun b G w hon hoff h) (hK _ (Below.refl _ _)))
/-- Any store into a row that is held. -/
theorem st_put {oi : Oper} (r : Nat) (x : Ent) (hx : A[r]? = some x) (hxs : x.stored = some i) (hoi : ops[i]? = some oi) (hN : oi.dst = none) (hw : ∀ b G, Ons B O i b → Offs B O i b → Region.wanted oi (yielded ops (putSel a0 b (vals G L)).tmps) = true)
    (hL : (L.all fun e => !(e.1 == i)) = true) (hA : (A.all fun x => !(x.born == some i)) = true) (hAs : ((A.take r ++ A.drop (r + 1)).all fun x => !(x.stored == some i)) = true) (hbo : onB B O i x.born = true)
    (hrun : ∀ b G w, Ons B O i b → Offs B O i b → Row w (x.ad G) x.k x.n x.f0 x.t → ∃ w', (execOp (putSel a0 b (vals G L)).eval oi).run P w = .ok .skip w' ∧ Stored w w' (x.ad G) ∧ Row w' (x.ad G) x.k x.n x.f1 x.t) : StepAt P ops Q B O (RI wE a0 L A) i := by
  rintro b a w ⟨G, rfl, hB, hR, hD⟩ hb hon hoff
  have hxm := List.mem_of_getElem? hx
  have h0 := hR x hxm (onB_is hbo hon)
  have e0 : x.f b = x.f0 := by unfold Ent.f; rw [hxs]; exact if_neg (by rw [show isOn b false (some i) = b i from rfl, hb]; decide)
  rw [e0] at h0
  obtain ⟨w', hr1, hs, hr⟩ := hrun b G w hon hoff h0.2
  refine ⟨oi, hoi, fun K hK => ?_⟩
  rw [if_pos (hw b G hon hoff)]
  unfold Oper.wp
  rw [hr1, Oper.upon_skip]
  rw [hN]
  refine hK _ _ ⟨G, (putSel_same (by unfold vals; rw [List.all_map]; exact hL)).symm, hs.bel _ _ h0.1 hB, fun z hz hbz => ?_, ?_⟩
  · have hzb := List.all_eq_true.1 hA z hz
    rw [Bool.not_eq_true'] at hzb
    rw [isOn_up hzb] at hbz
    obtain ⟨j, hj⟩ := List.getElem?_of_mem hz
    by_cases hjr : j = r
    · subst hjr
      rw [hx] at hj
      obtain rfl := Option.some.inj hj
      have e : x.f (up b i) = x.f1 := by unfold Ent.f; rw [hxs]; exact if_pos (up_self b i)
      rw [e]
      exact ⟨h0.1, hr⟩
    · have hm : z ∈ A.take r ++ A.drop (r + 1) := by
        rw [List.mem_append]
        by_cases hlt : j < r
        · left; exact List.mem_of_getElem? (i := j) (by rw [List.getElem?_take_of_lt hlt]; exact hj)
        · right; exact List.mem_of_getElem? (i := j - (r + 1)) (by rw [List.getElem?_drop]; rw [show r + 1 + (j - (r + 1)) = j by omega]; exact hj)
      have h2 := List.all_eq_true.1 hAs z hm
      rw [Bool.not_eq_true'] at h2
      have e : z.f (up b i) = z.f b := by unfold Ent.f; rw [isOn_up h2]
      rw [e]
      have hz0 := hR z hz hbz
      refine ⟨hz0.1, hz0.2.stored hs ?_⟩
      rw [List.pairwise_iff_getElem] at hD
      obtain ⟨hjl, hje⟩ := List.getElem?_eq_some_iff.1 hj
      obtain ⟨hrl, hre⟩ := List.getElem?_eq_some_iff.1 hx
      by_cases hlt : j < r
      · have := hD j r hjl hrl hlt (by rw [hje]; exact hbz) (by rw [hre]; exact onB_is hbo hon)
        rwa [hje, hre] at this
      · have := hD r j hrl hjl (by omega) (by rw [hre]; exact onB_is hbo hon) (by rw [hje]; exact hbz)
        rw [hje, hre] at this
        exact fun e => this e.symm
  · refine hD.imp_of_mem (fun {z y} hz hy h h1 h2 => ?_)
    have hz2 := List.all_eq_true.1 hA z hz
    have hy2 := List.all_eq_true.1 hA y hy
    rw [Bool.not_eq_true'] at hz2 hy2
    rw [isOn_up hz2] at h1
    rw [isOn_up hy2] at h2
    exact h h1 h2
theorem exec_move {o : Oper} {ev : Operand → Value} {w : World} {x : Operand} {v : Value} (ho : o.op = .move x ∨ o.op = .assign x) (hx : ev x = v) : (execOp ev o).run P w = .ok (.value v) w := by
  unfold execOp
  rcases ho with ho | ho <;> simp only [ho, hx, Sem.run_pure]
theorem exec_bin {o : Oper} {ev : Operand → Value} {w : World} {op : BinOp} {t u : TypeId} {x y : Operand} {a b v : Value} (ho : o.op = .binOp op t x y u) (hx : ev x = a) (hy : ev y = b) (h : (do eqGuard op t x y a b; binOp op t a b : Sem Value).run P w = .ok v w) : (execOp ev o).run P w = .ok (.value v) w := by
  unfold execOp
  simp only [ho, hx, hy]
  rw [Sem.run_bind, h]
  rfl
theorem exec_un {o : Oper} {ev : Operand → Value} {w : World} {op : UnOp} {t : TypeId} {x : Operand} {a v : Value} (ho : o.op = .unOp op t x) (hx : ev x = a) (h : (Op.unary op a).run P w = .ok v w) : (execOp ev o).run P w = .ok (.value v) w := by
  unfold execOp
  simp only [ho, hx]
  rw [Sem.run_bind, h]
  rfl
theorem exec_extract {o : Oper} {ev : Operand → Value} {w : World} {x : Operand} {n : Nat} {a v : Value} (ho : o.op = .extract x n) (hx : ev x = a) (h : (Instr.extract a n).run P w = .ok v w) : (execOp ev o).run P w = .ok (.value v) w := by
  unfold execOp
  simp only [ho, hx]
  rw [Sem.run_bind, h]
  rfl
theorem exec_pick {o : Oper} {ev : Operand → Value} {w : World} {c x y : Operand} {t : Bool} {v : Value} (ho : o.op = .pick c x y) (hc : ev c = .bool t) (hx : ev (if t then x else y) = v) : (execOp ev o).run P w = .ok (.value v) w := by
  unfold execOp
  simp only [ho, hc]
  cases t <;> simp_all [asBool]
theorem exec_index {o : Oper} {ev : Operand → Value} {w : World} {t : TypeId} {x y : Operand} {a b v : Value} (ho : o.op = .index t x y) (hx : ev x = a) (hy : ev y = b) (h : (Instr.index t a b).run P w = .ok v w) : (execOp ev o).run P w = .ok (.value v) w := by
  unfold execOp
  simp only [ho, hx, hy]
  rw [Sem.run_bind, h]
  rfl
theorem exec_indexAddr {o : Oper} {ev : Operand → Value} {w : World} {t : TypeId} {x y : Operand} {a b v : Value} (ho : o.op = .indexAddr t x y) (hx : ev x = a) (hy : ev y = b) (h : (Instr.indexAt t a b).run P w = .ok v w) : (execOp ev o).run P w = .ok (.value v) w := by
  unfold execOp
  simp only [ho, hx, hy]
  rw [Sem.run_bind, h]
  rfl
theorem exec_convert {o : Oper} {ev : Operand → Value} {w : World} {s d : TypeId} {x : Operand} {a v : Value} (ho : o.op = .convert s d x) (hx : ev x = a) (h : (convert s d a).run P w = .ok v w) : (execOp ev o).run P w = .ok (.value v) w := by
  unfold execOp
  simp only [ho, hx]
  rw [Sem.run_bind, h]
  rfl
/-- One number of a row. -/
theorem exec_cell {o : Oper} {ev : Operand → Value} {w : World} {k : IntKind} {n g j : Nat} {f : Nat → Int} {t ty : TypeId} {x : Operand} {d : TypeDesc} (hr : Row w g k n f t) (hj : j < n) (hu : P.underlying ty = some d) (hd : (match d with | .struct _ | .array _ _ => false | _ => true) = true) (ho : o.op = .load ty x) (hx : ev x = .pointer (some ⟨g, j, none⟩)) :
    (execOp ev o).run P w = .ok (.value (.int k (f j))) w := by
  have ha : (isAgg ty).run P w = .ok false w := by
    simp only [isAgg, Sem.run_bind, run_underlying hu, Result.andThen_ok]
    cases d <;> simp_all
  unfold execOp
  simp only [ho, hx, Instr.loadAt, Instr.sureAddr, Sem.run_bind, Sem.run_pure, Result.andThen_ok, loadVar, ha, Bool.false_eq_true, if_false, run_load, hr.cell j hj]
/-- m numbers from o on are v's. -/
def updR (f : Nat → Int) (o m : Nat) (v : Nat → Int) (j : Nat) : Int := if o ≤ j ∧ j < o + m then v (j - o) else f j
theorem setCells_FR {g : Nat} {k : IntKind} {n : Nat} {v : Nat → Int} {t : TypeId} {o : Nat} : ∀ (m : Nat) (s : Nat) (w : World) (f : Nat → Int), Row w g k n f t → o + s + m ≤ n → Row (w.setCells g (o + s) ((List.range' s m).map fun j => .int k (v j))) g k n (fun j => if o + s ≤ j ∧ j < o + s + m then v (j - o) else f j) t
  | 0, s, w, f, h, _ => by
    have e : (fun j => if o + s ≤ j ∧ j < o + s + 0 then v (j - o) else f j) = f := by funext j; rw [if_neg (by omega)]
    rw [e]; exact h
  | m + 1, s, w, f, h, hm => by
    have h1 := h.set (o + s) (v s) (by omega)
    have h2 := setCells_FR (v := v) (o := o) m (s + 1) _ _ h1 (by omega)
    have e : (fun j => if o + s ≤ j ∧ j < o + s + (m + 1) then v (j - o) else f j) = fun j => if o + (s + 1) ≤ j ∧ j < o + (s + 1) + m then v (j - o) else upd f (o + s) (v s) j := by
      funext j
      unfold upd
      by_cases hj : j = o + s
      · subst hj
        rw [if_pos (by omega), if_neg (by omega), if_pos rfl]
        congr 1; omega
      · by_cases hj2 : o + (s + 1) ≤ j ∧ j < o + (s + 1) + m
        · rw [if_pos (by omega), if_pos hj2]
        · rw [if_neg (by omega), if_neg hj2, if_neg hj]
    rw [e]
    exact h2
theorem FR_list (k : IntKind) (m : Nat) (v : Nat → Int) : (FR k m v).toList = (List.range' 0 m).map fun j => .int k (v j) := by
  apply List.ext_getElem?
  intro j
  rw [Array.getElem?_toList, List.getElem?_map]
  by_cases hj : j < m
  · rw [FR_at _ _ _ _ hj, List.getElem?_range' hj]
    simp
  · rw [FR_out _ _ _ _ hj, List.getElem?_eq_none (by simp; omega)]
    rfl
theorem Row.part {w : World} {g : Nat} {k : IntKind} {n : Nat} {f : Nat → Int} {t : TypeId} (h : Row w g k n f t) (o m : Nat) (v : Nat → Int) (hm : o + m ≤ n) : Row (w.setCells g o (FR k m v).toList) g k n (updR f o m v) t := by
  rw [FR_list]
  exact setCells_FR (v := v) (o := o) m 0 w f h (by omega)
theorem stored_cells (w : World) (g o : Nat) (vs : List Value) : Stored w (w.setCells g o vs) g := ⟨fun k hk => setCells_other hk _ _ _, setCells_size g _ _ _, fun B W hB hb => bel_setCells hB _ _ _ hb⟩
/-- A store of m numbers at o: the run. -/
theorem exec_part {o : Oper} {ev : Operand → Value} {w : World} {k : IntKind} {n g off m : Nat} {f v : Nat → Int} {t ty : TypeId} {x y : Operand} (hr : Row w g k n f t) (hm : off + m ≤ n) (hi : (P.info? ty).map (·.size) = some m) (ho : o.op = .store ty x y) (hx : ev x = .pointer (some ⟨g, off, none⟩)) (hy : ev y = .agg (FR k m v)) :
    ∃ w', (execOp ev o).run P w = .ok .skip w' ∧ Stored w w' g ∧ Row w' g k n (updR f off m v) t := by
  refine ⟨_, ?_, stored_cells w g off (FR k m v).toList, hr.part off m v hm⟩
  unfold execOp
  simp only [ho, hx, hy]
  rw [Sem.run_bind, run_storeAt_mid w g off ty (FR k m v) (fun j hj => by rw [FR_size] at hj; exact ⟨by rw [hr.cell _ (by omega)]; rfl, hr.fro _⟩) (by rw [FR_size]; exact hi) (Array.all_eq_true_iff_forall_mem.2 fun v hv => FR_one k m _ v (by simpa using hv))]
  rfl
/-- A store of one number: the run. -/
theorem exec_put1 {o : Oper} {ev : Operand → Value} {w : World} {k : IntKind} {n g j : Nat} {f : Nat → Int} {z : Int} {t ty : TypeId} {x y : Operand} (hr : Row w g k n f t) (hj : j < n) (hi : (P.info? ty).map (·.size) = some 1) (ho : o.op = .store ty x y) (hx : ev x = .pointer (some ⟨g, j, none⟩)) (hy : ev y = .int k z) :
    ∃ w', (execOp ev o).run P w = .ok .skip w' ∧ Stored w w' g ∧ Row w' g k n (upd f j z) t := by
  obtain ⟨ie, hie, hs⟩ : ∃ ie, P.info? ty = some ie ∧ ie.size = 1 := by
    cases he : P.info? ty with
    | none => rw [he] at hi; cases hi
    | some ie => rw [he] at hi; exact ⟨ie, rfl, Option.some.inj hi⟩
  refine ⟨w.setCell ⟨g, j, none⟩ (.int k z), ?_, ⟨fun q hq => heap_setCell_other _ _ _ _ hq, by simp [World.setCell], fun B W hB hb => hb.setCell hB _⟩, hr.set j z hj⟩
  unfold execOp
  simp only [ho, hx, hy]
  have hti : (typeInfo ty).run P w = .ok ie w := by simp [typeInfo, hie]
  have h1 : (Instr.storeAt ty (.pointer (some ⟨g, j, none⟩)) (.int k z)).run P w = .ok () (w.setCell ⟨g, j, none⟩ (.int k z)) := by
    have hsz : (Value.int k z).cells.size = 1 := rfl
    simp only [Instr.storeAt, Instr.sureAddr, Sem.run_bind, Sem.run_pure, Result.andThen_ok, storeVar, sizeOf, hti, hs, hsz, ne_eq, not_true_eq_false, if_false]
    have hcl : (Value.int k z).cells.toList = [.int k z] := rfl
    rw [hcl]
    have := run_storeCells_cells (P := P) g j [.int k z] 0 w (fun q hq => (by
      obtain rfl : q = 0 := (by simpa using hq)
      rw [Nat.add_zero, hr.cell j hj]; rfl)) (fun q hq => hr.fro _) (fun v hv => (by
      simp only [List.mem_singleton] at hv
      subst hv; rfl))
    simpa [World.setCells] using this
  rw [Sem.run_bind, h1]
  rfl
theorem b_row {fn : Func} {R : Ending → World → Prop} {p : Tmp} {ty : TypeId} {a : Act} {w : World} {g n : Nat} {k : IntKind} {f : Nat → Int} {t : TypeId} {d : TypeDesc} (h : fn.results = #[.cell p ty]) (hd : a.defers = []) (hp : a.eval (.tmp p) = .pointer (some ⟨g, 0, none⟩)) (hr : Row w g k n f t)
    (hu : P.underlying ty = some d) (hdd : (match d with | .struct _ | .array _ _ => true | _ => false) = true) (hi : (P.info? ty).map (·.size) = some n) (hR : R (.returned (.agg (FR k n f))) w) : bodyPost P fn R .ret a w :=
  ⟨hd, _, row_results h hr hp hu hdd hi, hR⟩
theorem b_tmp {fn : Func} {R : Ending → World → Prop} {p : Tmp} {a : Act} {w : World} {v : Value} (h : fn.results = #[.tmp p]) (hd : a.defers = []) (hp : a.eval (.tmp p) = v) (hR : R (.returned v) w) : bodyPost P fn R .ret a w :=
  ⟨hd, v, by have hp' : a.tmps.getD p undef = v := hp; rw [← hp']; exact results_tmp h _ _ _, hR⟩
theorem b_row2 {fn : Func} {R : Ending → World → Prop} {p q : Tmp} {ty : TypeId} {a : Act} {w : World} {g n : Nat} {k : IntKind} {f : Nat → Int} {t : TypeId} {d : TypeDesc} {v : Value} (h : fn.results = #[.cell p ty, .tmp q]) (hd : a.defers = []) (hp : a.eval (.tmp p) = .pointer (some ⟨g, 0, none⟩)) (hq : a.eval (.tmp q) = v) (hr : Row w g k n f t)
    (hu : P.underlying ty = some d) (hdd : (match d with | .struct _ | .array _ _ => true | _ => false) = true) (hi : (P.info? ty).map (·.size) = some n) (hR : R (.returned (.tuple #[.agg (FR k n f), v])) w) : bodyPost P fn R .ret a w := by
  refine ⟨hd, .tuple #[.agg (FR k n f), v], ?_, hR⟩
  have hp' : a.tmps[p]?.getD undef = .pointer (some ⟨g, 0, none⟩) := by rw [← Array.getD_eq_getD_getElem?]; exact hp
  have hq' : a.tmps[q]?.getD undef = v := by rw [← Array.getD_eq_getD_getElem?]; exact hq
  simp [results, h, hp', hq', asAddr, run_loadVar_row w g t ty _ _ d hr hu hdd (by rw [FR_size]; exact hi)]
theorem exec_slice {o : Oper} {ev : Operand → Value} {w : World} {t : TypeId} {x : Operand} {lo hi mx : Option Operand} {a v : Value} {l h m : Option Value} (ho : o.op = .slice t x lo hi mx) (hx : ev x = a) (hl : lo.map ev = l) (hh : hi.map ev = h) (hm : mx.map ev = m) (hr : (Instr.sliceAt t a l h m).run P w = .ok v w) : (execOp ev o).run P w = .ok (.value v) w := by
  unfold execOp
  simp only [ho, hx, hl, hh, hm]
  rw [Sem.run_bind, hr]
  rfl
theorem exec_buildSlice {o : Oper} {ev : Operand → Value} {w w' : World} {t : TypeId} {n : Nat} {parts : Array (Nat × Operand)} {ps : Array (Nat × Value)} {v : Value} (ho : o.op = .buildSlice t n parts) (hx : (parts.map fun (i, x) => (i, ev x)) = ps) (h : (Instr.buildSlice t n ps).run P w = .ok v w') : (execOp ev o).run P w = .ok (.value v) w' := by
  unfold execOp
  simp only [ho, hx]
  rw [Sem.run_bind, h]
  rfl
theorem then_exit {K : Act → World → Prop} {a : Act} {w : World} {id : Nat} (h : Q (.exit id) a w) : Exit.then K Q (.exit id) a w := h
theorem inBlock_exit {a : Act} {w : World} {id : Nat} (h : Q .normal a w) : Exit.inBlock id Q (.exit id) a w := by unfold Exit.inBlock; simp only [if_true]; exact h
theorem inBlock_normal {a : Act} {w : World} {id : Nat} (h : Q .normal a w) : Exit.inBlock id Q .normal a w := h
end
end Go.Proofs.YtaaipbhfikefaaaDoor.P
end
