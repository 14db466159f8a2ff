/- Merged of the texts: WWords, WLast, WQPut, WApart, WArr, WZeros, WFoot, WKept, WShare, WN, WNEv, WMore, WTab, WRepsOne, Vb, WInv, Vi, Pa, Pb, Pc, Vx, Vr, Pd, Pe, Pf, Pg, Ph, Ua, Ub (trim.py). -/
import Derived.Below
import Derived.Deep.Draws
import Derived.Deep.AppendLies
import Derived.Maps.AppendAt
import Derived.OwnWalk
import Derived.Laws.BytesArg
import Derived.Laws.MakeOwn
import Derived.Laws.OwnMore
import Derived.Deep.OwnRows
import Derived.Tactics
import Derived.Lib.ConvBytes
import Derived.Laws.Slices
import Derived.WalkKit
import Derived.KernelRfl
import Derived.RowKit3
import Derived.Deep.LoopGhost
import Derived.Deep.QuietTactic
import Derived.BigQuiet
import Derived.WideLaws
import Derived.Deep.DeepCutAuto
import Derived.Deep.CutBlock
import Derived.Deep.RegionHeld3
import Derived.Laws.Rows
import Derived.Lib.AppendStr
import Derived.ArgAppend
import Derived.Laws.IdiomCopy
import Derived.RowKit
import Derived.OrdersHeld
import Derived.Laws.BitsLemmas
import Derived.Laws.BitsAllLaws
import Derived.Laws.NewBlocks
import Derived.ChangeKeysEq
import Derived.Laws.StructEq
import Derived.Deep.RegionWith
import Derived.WideKeyArr2
import Derived.Lib.Mul64
import Derived.Laws.Externs
import Derived.ChangeSlices
import Derived.Test.YtlfplmlehbomlaaDoorProg
import Derived.Lib.Bytealg
import Derived.ChangeArms
import Derived.ChangeShapes
import Derived.Lib.SmallJoins
import Derived.DataReads
import Derived.Deep.Slices
import Derived.Laws.Cover1
import Derived.Lib.Strings
import Derived.Lib.Walk
namespace Foot
end Foot
namespace Go.Proofs.YtlfplmlehbomlaaDoor.I
end Go.Proofs.YtlfplmlehbomlaaDoor.I
namespace Go.Proofs.YtlfplmlehbomlaaDoor.P
end Go.Proofs.YtlfplmlehbomlaaDoor.P
namespace Go.Proofs.YtlfplmlehbomlaaDoorW.PrintLast
end Go.Proofs.YtlfplmlehbomlaaDoorW.PrintLast
namespace Go.Proofs.YtlfplmlehbomlaaDoorW.PrintMore
end Go.Proofs.YtlfplmlehbomlaaDoorW.PrintMore
namespace Go.Proofs.YtlfplmlehbomlaaDoorW.PrintWords
end Go.Proofs.YtlfplmlehbomlaaDoorW.PrintWords
namespace Kd
end Kd
namespace T
end T
section
set_option linter.unusedVariables false
set_option linter.unusedSimpArgs false
namespace Go.Proofs.YtlfplmlehbomlaaDoorW.PrintWords
open Go.RowKit
structure Aside0 (p : Prop) : Prop where mk :: (out : p)
structure zI (w w' : World) : Prop where mk :: (out : ∃ n, w' = w.drewN n)
theorem zI.refl (w : World) : zI w w := ⟨⟨0, rfl⟩⟩
theorem zI.step {w w' : World} (h : zI w w') (n : Nat) : zI w (w'.drewN n) := by
  obtain ⟨m, rfl⟩ := h
  exact ⟨⟨m + n, World.drewN_drewN ..⟩⟩
theorem zI.below {w w' : World} (h : zI w w') : Below w.heap.size w w' := by
  obtain ⟨n, rfl⟩ := h
  induction n with
  | zero => exact Below.refl _ _
  | succ n ih => rw [← World.drew_drewN]; exact ih.drew
def rd (xs : List Int) (i : Int) : Int := xs.getD i.toNat 0
def bt (s : ByteArray) (i : Int) : Int := if h : i.toNat < s.size then ((s[i.toNat]'h).toNat : Int) else 0
theorem zR (s : ByteArray) (i : Int) : ∀ h : i.toNat < s.size, ((s[i.toNat]'h).toNat : Int) = bt s i := fun h => by simp [bt, h]
theorem below_alloc {w W : World} (h : Below w.heap.size w W) (o : Obj) : Below w.heap.size w (W.alloc o) := h.alloc h.size o
theorem zX {B : Nat} {w W : World} (h : Below B w W) (n : Nat) : Below B w (W.drewN n) := ⟨h.os, h.tape, h.output, h.size, h.block⟩
theorem grown_of_below {w w1 : World} (h : Below w.heap.size w w1) (row : Option Nat) : w.grownBy w1 row := ⟨h.os, h.tape, h.output, h.size, fun i hi _ => h.block i hi⟩
theorem pw_cell_below {w w1 : World} (h : Below w.heap.size w w1) {a : Addr} {v : Value} (hc : w.cell? a = some v) : w1.cell? a = some v := (h.cell (World.block_lt_of_cell? w a hc)).trans hc
def ReadsInt (w : World) (k : IntKind) (A : Option Addr) (n : Nat) (xs : List Int) : Prop :=
  xs.length = n ∧ n ≤ 9223372036854775807 ∧ (0 < n → ∃ ad, A = some ad ∧ ∀ j, j < n → w.cell? (ad.add j) = some (.int k (xs.getD j 0)))
theorem ReadsInt.below {w w1 : World} {k : IntKind} {A : Option Addr} {n : Nat} {xs : List Int} (h : ReadsInt w k A n xs) (hb : Below w.heap.size w w1) : ReadsInt w1 k A n xs :=
  ⟨h.1, h.2.1, fun hn => by
    obtain ⟨ad, e, hc⟩ := h.2.2 hn
    exact ⟨ad, e, fun j hj => pw_cell_below hb (hc j hj)⟩⟩
theorem own_base {w : World} {base : Nat} {e : TypeId} {size n : Nat} {v : Value} {xs : List Value} (h : w.ownsRow base e size v n xs) (k : Nat) (hk : v.ownBlock = some k) : base ≤ k := by
  rcases h.2 with ⟨rfl, _⟩ | ⟨g, cap, cur, rfl, hb, _⟩
  · simp [Value.ownBlock] at hk
  · have : g = k := by simpa [Value.ownBlock] using hk
    omega
theorem own_lt {w : World} {base : Nat} {e : TypeId} {size n : Nat} {v : Value} {xs : List Value} (h : w.ownsRow base e size v n xs) (k : Nat) (hk : v.ownBlock = some k) : k < w.heap.size := by
  rcases h.2 with ⟨rfl, _⟩ | ⟨g, cap, cur, rfl, hb, hh, _⟩
  · simp [Value.ownBlock] at hk
  · have : g = k := by simpa [Value.ownBlock] using hk
    subst this
    exact (Array.getElem?_eq_some_iff.1 hh).1
theorem pw_own_below {w w1 : World} {base : Nat} {e : TypeId} {size n : Nat} {v : Value} {xs : List Value} (h : w.ownsRow base e size v n xs) (hb : Below w.heap.size w w1) : w1.ownsRow base e size v n xs :=
  h.kept (grown_of_below hb none) (by cases v.ownBlock <;> simp)
theorem own_other {w w1 : World} {base : Nat} {e : TypeId} {size n : Nat} {v : Value} {xs : List Value} (h : w.ownsRow base e size v n xs) {row : Option Nat} (hg : w.grownBy w1 row) (hne : v.ownBlock = none ∨ v.ownBlock ≠ row) : w1.ownsRow base e size v n xs := h.kept hg hne
def bytesOf (s : ByteArray) : List Int := s.data.toList.map fun b => (b.toNat : Int)
theorem data_length (s : ByteArray) : s.data.toList.length = s.size := by rw [Array.length_toList]; rfl
theorem zN (s : ByteArray) : (bytesOf s).length = s.size := by rw [bytesOf, List.length_map, data_length]
theorem rd_bytesOf (s : ByteArray) (i : Int) : rd (bytesOf s) i = bt s i := by
  unfold rd bt bytesOf
  split
  · rename_i h
    have h' : i.toNat < s.data.toList.length := by rw [data_length]; exact h
    simp [List.getD_eq_getElem?_getD, List.getElem?_eq_getElem h']
    rfl
  · rename_i h
    have h' : s.data.toList.length ≤ i.toNat := by rw [data_length]; omega
    simp [List.getD_eq_getElem?_getD, List.getElem?_eq_none h']
def LeO {α : Type} (a b : Option α) : Prop := ∀ r, a = some r → b = some r
theorem LeO.refl {α : Type} (a : Option α) : LeO a a := fun _ h => h
theorem LeO.none {α : Type} (b : Option α) : LeO Option.none b := fun _ h => by cases h
theorem LeO.trans {α : Type} {a b c : Option α} (h : LeO a b) (k : LeO b c) : LeO a c := fun r hr => k r (h r hr)
theorem LeO.ite {α : Type} {c : Prop} [Decidable c] {a a' b b' : Option α} (h : LeO a a') (k : LeO b b') : LeO (if c then a else b) (if c then a' else b') := by
  split
  · exact h
  · exact k
theorem LeO.bind {α β : Type} {a a' : Option α} {f f' : α → Option β} (h : LeO a a') (k : ∀ x, LeO (f x) (f' x)) : LeO (a.bind f) (a'.bind f') := by
  intro r hr
  obtain ⟨x, hx, hf⟩ := Option.bind_eq_some_iff.1 hr
  exact Option.bind_eq_some_iff.2 ⟨x, h x hx, k x r hf⟩
theorem LeO.map {α β : Type} {a a' : Option α} (f : α → β) (h : LeO a a') : LeO (a.map f) (a'.map f) := by
  intro r hr
  obtain ⟨x, hx, hf⟩ := Option.map_eq_some_iff.1 hr
  exact Option.map_eq_some_iff.2 ⟨x, h x hx, hf⟩
theorem more_rounds {α : Type} {g : Nat → Option α} (h : ∀ k, LeO (g k) (g (k + 1))) (k : Nat) : ∀ j, LeO (g k) (g (k + j))
  | 0 => LeO.refl _
  | j + 1 => (more_rounds h k j).trans (h (k + j))
theorem at_rounds {α : Type} {g : Nat → Option α} (h : ∀ k, LeO (g k) (g (k + 1))) {k k' : Nat} (hk : k ≤ k') {r : α} (hr : g k = some r) : g k' = some r := by
  have := more_rounds h k (k' - k) r hr
  rwa [Nat.add_sub_cancel' hk] at this
def Reps {α : Type} (R : α → List Value → Prop) (size : Nat) (ps : List α) (cs : List Value) : Prop :=
  cs.length = ps.length * size ∧ ∀ j p, ps[j]? = some p → R p ((cs.drop (j * size)).take size)
theorem Reps.none {α : Type} (R : α → List Value → Prop) (size : Nat) : Reps R size [] [] := ⟨by simp, fun j p h => by simp at h⟩
theorem Reps.imp_ {α : Type} {R R' : α → List Value → Prop} {size : Nat} {ps : List α} {cs : List Value} (h : Reps R size ps cs) (hR : ∀ p c, R p c → R' p c) : Reps R' size ps cs := ⟨h.1, fun j p hj => hR _ _ (h.2 j p hj)⟩
def ReadsRow {α : Type} (R : α → List Value → Prop) (size : Nat) (w : World) (A : Option Addr) (n : Nat) (ps : List α) : Prop :=
  ps.length = n ∧ n ≤ 9223372036854775807 ∧ (0 < n → ∃ ad, A = some ad ∧ ∀ j p, ps[j]? = some p → ∃ c, c.length = size ∧ R p c ∧ ∀ i u, c[i]? = some u → w.cell? (ad.add (j * size + i)) = some u)
theorem ReadsRow.imp_ {α : Type} {R R' : α → List Value → Prop} {size : Nat} {w w1 : World} {A : Option Addr} {n : Nat} {ps : List α} (h : ReadsRow R size w A n ps) (hb : Below w.heap.size w w1) (hR : ∀ p c, R p c → R' p c) : ReadsRow R' size w1 A n ps :=
  ⟨h.1, h.2.1, fun hn => by
    obtain ⟨ad, e, hc⟩ := h.2.2 hn
    refine ⟨ad, e, fun j p hj => ?_⟩
    obtain ⟨c, hs, hr, hcell⟩ := hc j p hj
    exact ⟨c, hs, hR _ _ hr, fun i u hu => pw_cell_below hb (hcell i u hu)⟩⟩
theorem own_reads_row {α : Type} {R : α → List Value → Prop} {w : World} {base n size : Nat} {e : TypeId} {v : Value} {ps : List α} {cs : List Value} (h : w.ownsRow base e size v n cs) (hR : Reps R size ps cs) (hn : ps.length = n) :
    ∃ A c, v = .slice A n c ∧ ReadsRow R size w A n ps := by
  rcases Nat.eq_zero_or_pos n with h0 | h0
  · rcases h.2 with ⟨rfl, rfl⟩ | ⟨g, cap, cur, rfl, _⟩
    · exact ⟨none, 0, rfl, hn, by omega, fun hp => absurd hp (by omega)⟩
    · exact ⟨_, cap, rfl, hn, by omega, fun hp => absurd hp (by omega)⟩
  · obtain ⟨g, cap, rfl, _, _⟩ := h.form h0
    have hm : n ≤ 9223372036854775807 := by
      rcases h.2 with ⟨_, h1⟩ | ⟨g', cap', cur, he, _, _, h1, h2, _⟩
      · omega
      · simp only [maxLen] at h2
        omega
    refine ⟨_, cap, rfl, hn, hm, fun _ => ⟨_, rfl, fun j p hj => ⟨(cs.drop (j * size)).take size, ?_, hR.2 j p hj, fun i u hu => ?_⟩⟩⟩
    · have hjl := (List.getElem?_eq_some_iff.1 hj).1
      have h1 : j * size + size ≤ cs.length := by rw [hR.1, ← Nat.succ_mul]; exact Nat.mul_le_mul_right _ hjl
      rw [List.length_take, List.length_drop]
      omega
    · refine h.cells (g := g) rfl _ u ?_
      rw [List.getElem?_take] at hu
      split at hu
      · rw [List.getElem?_drop] at hu
        exact hu
      · cases hu
theorem blk_set {w : World} {g : Nat} {t : TypeId} {cs : Array Value} (h : w.heap[g]? = some (.cells cs t (0, 0))) (i : Nat) (u : Value) : (w.setCell ⟨g, i, none⟩ u).heap[g]? = some (.cells (cs.setIfInBounds i u) t (0, 0)) := by
  simp [World.setCell, Array.getElem?_modify, h]
theorem blk_lt {w : World} {g : Nat} {o : Obj} (h : w.heap[g]? = some o) : g < w.heap.size := (Array.getElem?_eq_some_iff.1 h).1
def KeepBut (w w' : World) (g : Nat) (row : Option Nat) : Prop := w.heap.size ≤ w'.heap.size ∧ ∀ i, i < w.heap.size → i ≠ g → some i ≠ row → w'.heap[i]? = w.heap[i]?
theorem KeepBut.refl (w : World) (g : Nat) (row : Option Nat) : KeepBut w w g row := ⟨Nat.le_refl _, fun _ _ _ _ => rfl⟩
theorem KeepBut.of_below {w w1 : World} (h : Below w.heap.size w w1) (g : Nat) (row : Option Nat) : KeepBut w w1 g row := ⟨h.size, fun i hi _ _ => h.block i hi⟩
theorem KeepBut.trans {w w1 w2 : World} {g : Nat} {row row1 : Option Nat} (h : KeepBut w w1 g row) (k : KeepBut w1 w2 g row1) (hr : row1 = row ∨ ∃ b, row1 = some b ∧ w.heap.size ≤ b) : KeepBut w w2 g row :=
  ⟨Nat.le_trans h.1 k.1, fun i hi hg hn => by
    refine (k.2 i (Nat.lt_of_lt_of_le hi h.1) hg ?_).trans (h.2 i hi hg hn)
    rcases hr with rfl | ⟨b, rfl, hb⟩
    · exact hn
    · intro e
      injection e with e
      omega⟩
theorem KeepBut.blk {w w1 : World} {g g' : Nat} {row : Option Nat} {o : Obj} (h : KeepBut w w1 g row) (hb : w.heap[g']? = some o) (hg : g' ≠ g) (hr : some g' ≠ row) : w1.heap[g']? = some o := (h.2 g' (blk_lt hb) hg hr).trans hb
theorem KeepBut.own {w w1 : World} {g : Nat} {row : Option Nat} {base : Nat} {e : TypeId} {size n : Nat} {v : Value} {xs : List Value} (h : KeepBut w w1 g row) (ho : w.ownsRow base e size v n xs) (hg : v.ownBlock ≠ some g) (hr : v.ownBlock = none ∨ v.ownBlock ≠ row) : w1.ownsRow base e size v n xs := by
  obtain ⟨h1, h2⟩ := ho
  refine ⟨h1, ?_⟩
  rcases h2 with h2 | ⟨b, cap, cur, rfl, hb, hh, r⟩
  · exact .inl h2
  · refine .inr ⟨b, cap, cur, rfl, hb, h.blk hh ?_ ?_, r⟩
    · intro e
      exact hg (by rw [← e]; rfl)
    · rcases hr with hr | hr
      · simp [Value.ownBlock] at hr
      · exact hr
def Ev {α : Type} (g : Nat → Option α) (r : α) : Prop := ∃ K, ∀ k, K ≤ k → g k = some r
theorem Ev.of {α : Type} {g : Nat → Option α} {r : α} (hg : ∀ k, LeO (g k) (g (k + 1))) {k : Nat} (h : g k = some r) : Ev g r := ⟨k, fun _ hk => at_rounds hg hk h⟩
theorem Ev.bind {α β : Type} {g : Nat → Option α} {f : Nat → α → Option β} {a : α} {r : β} (h : Ev g a) (k : Ev (fun n => f n a) r) : Ev (fun n => (g n).bind (f n)) r := by
  obtain ⟨K, h⟩ := h
  obtain ⟨K', k⟩ := k
  refine ⟨max K K', fun n hn => ?_⟩
  have h1 := h n (by omega)
  have h2 := k n (by omega)
  simp only [h1, Option.bind_some]
  exact h2
theorem Ev.step {α : Type} {g f : Nat → Option α} {r : α} (h : ∀ k, g (k + 1) = f k) (k : Ev f r) : Ev g r := by
  obtain ⟨K, k⟩ := k
  refine ⟨K + 1, fun n hn => ?_⟩
  obtain ⟨m, rfl⟩ : ∃ m, n = m + 1 := ⟨n - 1, by omega⟩
  rw [h]
  exact k m (by omega)
theorem Ev.congr {α : Type} {g f : Nat → Option α} {r : α} (h : ∀ k, g k = f k) (k : Ev f r) : Ev g r := by
  obtain ⟨K, k⟩ := k
  exact ⟨K, fun n hn => (h n).trans (k n hn)⟩
theorem own_weaken {w : World} {base base' : Nat} {e : TypeId} {size n : Nat} {v : Value} {xs : List Value} (h : w.ownsRow base e size v n xs) (hb : base' ≤ base) : w.ownsRow base' e size v n xs := by
  obtain ⟨h1, h2⟩ := h
  refine ⟨h1, ?_⟩
  rcases h2 with h2 | ⟨g, cap, cur, rfl, hg, r⟩
  · exact .inl h2
  · exact .inr ⟨g, cap, cur, rfl, Nat.le_trans hb hg, r⟩
section
variable {α : Type} {enc : α → Value} {d : α}
def ReadsOf (enc : α → Value) (d : α) (w : World) (A : Option Addr) (n : Nat) (xs : List α) : Prop :=
  xs.length = n ∧ n ≤ 9223372036854775807 ∧ (0 < n → ∃ ad, A = some ad ∧ ∀ j, j < n → w.cell? (ad.add j) = some (enc (xs.getD j d)))
theorem ReadsOf.below {w w1 : World} {A : Option Addr} {n : Nat} {xs : List α} (h : ReadsOf enc d w A n xs) (hb : Below w.heap.size w w1) : ReadsOf enc d w1 A n xs :=
  ⟨h.1, h.2.1, fun hn => by
    obtain ⟨ad, e, hc⟩ := h.2.2 hn
    exact ⟨ad, e, fun j hj => pw_cell_below hb (hc j hj)⟩⟩
end
theorem own_le {w : World} {base n m c size : Nat} {e : TypeId} {A : Option Addr} {xs : List Value} (h : w.ownsRow base e size (.slice A m c) n xs) : m ≤ c := by
  rcases h.2 with ⟨he, _⟩ | ⟨g, cap, cur, he, _, _, hnc, _⟩
  · injection he with _ h2 h3
    omega
  · injection he with _ h2 h3
    omega
def OwnRow {α : Type} (R : α → List Value → Prop) (e : TypeId) (size : Nat) (w : World) (base : Nat) (v : Value) (ps : List α) : Prop :=
  ∃ inner, w.ownsRow base e size v ps.length inner ∧ Reps R size ps inner
section
variable {α : Type} {R R' : α → List Value → Prop} {e : TypeId} {size : Nat} {w w1 : World} {base : Nat} {v : Value} {ps : List α}
theorem OwnRow.imp_ (h : OwnRow R e size w base v ps) (hR : ∀ p c, R p c → R' p c) : OwnRow R' e size w base v ps := by
  obtain ⟨inner, ho, hr⟩ := h
  exact ⟨inner, ho, hr.imp_ hR⟩
theorem OwnRow.below (h : OwnRow R e size w base v ps) (hb : Below w.heap.size w w1) : OwnRow R e size w1 base v ps := by
  obtain ⟨inner, ho, hr⟩ := h
  exact ⟨inner, pw_own_below ho hb, hr⟩
theorem OwnRow.other (h : OwnRow R e size w base v ps) {row : Option Nat} (hg : w.grownBy w1 row) (hne : v.ownBlock = none ∨ v.ownBlock ≠ row) : OwnRow R e size w1 base v ps := by
  obtain ⟨inner, ho, hr⟩ := h
  exact ⟨inner, own_other ho hg hne, hr⟩
theorem OwnRow.reads (h : OwnRow R e size w base v ps) : ∃ A c, v = .slice A ps.length c ∧ ps.length ≤ c ∧ ReadsRow R size w A ps.length ps := by
  obtain ⟨inner, ho, hr⟩ := h
  obtain ⟨A, c, rfl, hrow⟩ := own_reads_row ho hr rfl
  exact ⟨A, c, rfl, own_le ho, hrow⟩
theorem OwnRow.lit (W : World) (base : Nat) {inner : List Value} (hr : Reps R size ps inner) (hb : base ≤ W.heap.size) (hm : ps.length ≤ 9223372036854775807) :
    OwnRow R e size (W.alloc (.cells inner.toArray e)) base (.slice (some ⟨W.heap.size, 0, none⟩) ps.length ps.length) ps := by
  have h := World.ownsRow_lit (base := base) (e := e) (size := size) W inner.toArray ps.length hb (by simpa [maxLen] using hm) (by simpa using hr.1)
  exact ⟨inner, by simpa using h, hr⟩
end
section
variable {α : Type} {P : Program}
theorem ReadsOf.len_ {enc : α → Value} {d : α} {w : World} {A : Option Addr} {n : Nat} {xs : List α} (h : ReadsOf enc d w A n xs) : ReadsOf enc d w A xs.length xs := by rw [h.1]; exact h
end
structure Kd (α : Type) where
  sz : Nat
  E : List Nat
  K : World → α → List Value → Prop
  M : World → Nat → (Nat → Prop) → α → List Value → Prop
  K_len : ∀ {w x cs}, K w x cs → cs.length = sz
  K_one : ∀ {w x cs}, K w x cs → ∀ u ∈ cs, u.oneCell' = true
  K_below : ∀ {w w1 : World} {x cs}, Below w.heap.size w w1 → K w x cs → K w1 x cs
  K_of_M : ∀ {w base ok x cs}, M w base ok x cs → K w x cs
  M_mono : ∀ {w base ok ok' x cs}, (∀ k, ok k → ok' k) → M w base ok x cs → M w base ok' x cs
  M_bound : ∀ {w : World} {base ok x cs}, M w base ok x cs → M w base (fun k => ok k ∧ base ≤ k ∧ k < w.heap.size ∧ ∃ q, q ∈ E ∧ ∃ cells, w.heap[k]? = some (.cells cells q (0, 0))) x cs
  M_move : ∀ {w w1 : World} {base ok x cs}, (∀ k, ok k → w1.heap[k]? = w.heap[k]?) → M w base ok x cs → M w1 base ok x cs
  M_lower : ∀ {w base base' ok x cs}, base' ≤ base → M w base ok x cs → M w base' ok x cs
theorem own_move {w w1 : World} {base : Nat} {e : TypeId} {size n : Nat} {v : Value} {xs : List Value} (h : w.ownsRow base e size v n xs) (hm : ∀ k, v.ownBlock = some k → w1.heap[k]? = w.heap[k]?) : w1.ownsRow base e size v n xs := by
  obtain ⟨h1, h2⟩ := h
  refine ⟨h1, ?_⟩
  rcases h2 with h2 | ⟨g, cap, cur, rfl, hg, hh, r⟩
  · exact .inl h2
  · exact .inr ⟨g, cap, cur, rfl, hg, (hm g (by simp [Value.ownBlock])).trans hh, r⟩
theorem own_typed {w : World} {base : Nat} {e : TypeId} {size n : Nat} {v : Value} {xs : List Value} (h : w.ownsRow base e size v n xs) (k : Nat) (hk : v.ownBlock = some k) : ∃ cells, w.heap[k]? = some (.cells cells e (0, 0)) := by
  rcases h.2 with ⟨rfl, _⟩ | ⟨g, cap, cur, rfl, hg, hh, r⟩
  · simp [Value.ownBlock] at hk
  · have : g = k := by simpa [Value.ownBlock] using hk
    subst this
    exact ⟨cur, hh⟩
namespace Kd
def C {α : Type} (d : Kd α) (w : World) (A : Option Addr) (n : Nat) (xs : List α) : Prop := ReadsRow (d.K w) d.sz w A n xs
def R {α : Type} (d : Kd α) (e : Nat) (w : World) (base : Nat) (ok : Nat → Prop) (v : Value) (xs : List α) : Prop :=
  (∀ k, v.ownBlock = some k → ok k) ∧ OwnRow (d.M w base (fun k => ok k ∧ some k ≠ v.ownBlock)) e d.sz w base v xs
section
variable {α : Type} {d : Kd α} {e : Nat} {w w1 : World} {base : Nat} {ok ok' : Nat → Prop} {v : Value} {xs : List α}
theorem C_below {A : Option Addr} {n : Nat} (h : d.C w A n xs) (hb : Below w.heap.size w w1) : d.C w1 A n xs := ReadsRow.imp_ h hb (fun _ _ hp => d.K_below hb hp)
theorem R_mono (h : d.R e w base ok v xs) (hok : ∀ k, ok k → ok' k) : d.R e w base ok' v xs := ⟨fun k hk => hok k (h.1 k hk), h.2.imp_ (fun _ _ hp => d.M_mono (fun k hk => ⟨hok k hk.1, hk.2⟩) hp)⟩
theorem R_bound (h : d.R e w base ok v xs) : d.R e w base (fun k => ok k ∧ base ≤ k ∧ k < w.heap.size ∧ ∃ q, q ∈ e :: d.E ∧ ∃ cells, w.heap[k]? = some (.cells cells q (0, 0))) v xs := by
  obtain ⟨h0, inner, ho, hr⟩ := h
  refine ⟨fun k hk => ?_, inner, ho, hr.imp_ (fun _ _ hp => d.M_mono (fun k hk => ?_) (d.M_bound hp))⟩
  · obtain ⟨cells, hc⟩ := own_typed ho k hk
    exact ⟨h0 k hk, own_base ho k hk, own_lt ho k hk, e, List.mem_cons_self, cells, hc⟩
  · obtain ⟨⟨h1, h2⟩, h3, h4, q, hq, hc⟩ := hk
    exact ⟨⟨h1, h3, h4, q, List.mem_cons_of_mem _ hq, hc⟩, h2⟩
theorem R_move (h : d.R e w base ok v xs) (hm : ∀ k, ok k → w1.heap[k]? = w.heap[k]?) : d.R e w1 base ok v xs := by
  obtain ⟨h0, inner, ho, hr⟩ := h
  exact ⟨h0, inner, own_move ho (fun k hk => hm k (h0 k hk)), hr.imp_ (fun _ _ hp => d.M_move (fun k hk => hm k hk.1) hp)⟩
theorem R_lower {base' : Nat} (h : d.R e w base ok v xs) (hb : base' ≤ base) : d.R e w base' ok v xs := by
  obtain ⟨h0, inner, ho, hr⟩ := h
  exact ⟨h0, inner, own_weaken ho hb, hr.imp_ (fun _ _ hp => d.M_lower hb hp)⟩
theorem R_reads (h : d.R e w base ok v xs) : ∃ A c, v = .slice A xs.length c ∧ xs.length ≤ c ∧ d.C w A xs.length xs := by
  obtain ⟨A, c, he, hl, hr⟩ := OwnRow.reads h.2
  exact ⟨A, c, he, hl, hr.imp_ (Below.refl _ _) (fun _ _ hp => d.K_of_M hp)⟩
end
def scalar {α : Type} (enc : α → Value) (h1 : ∀ x, (enc x).oneCell' = true) : Kd α where
  sz := 1
  E := []
  K := fun _ x cs => cs = [enc x]
  M := fun _ _ _ x cs => cs = [enc x]
  K_len := fun h => by rw [h]; rfl
  K_one := fun h u hu => by
    rw [h] at hu
    rw [List.mem_singleton.1 hu]
    exact h1 _
  K_below := fun _ h => h
  K_of_M := fun h => h
  M_mono := fun _ h => h
  M_bound := fun h => h
  M_move := fun _ h => h
  M_lower := fun _ h => h
def int (k : IntKind) : Kd Int := scalar (Value.int k) (fun _ => rfl)
def bool : Kd Bool := scalar Value.bool (fun _ => rfl)
def string : Kd ByteArray := scalar Value.string (fun _ => rfl)
def slice {α : Type} (e : Nat) (d : Kd α) : Kd (List α) where
  sz := 1
  E := e :: d.E
  K := fun w xs cs => ∃ A c, cs = [.slice A xs.length c] ∧ xs.length ≤ c ∧ d.C w A xs.length xs
  M := fun w base ok xs cs => ∃ v, cs = [v] ∧ d.R e w base ok v xs
  K_len := by
    rintro w x cs ⟨A, c, rfl, _⟩
    rfl
  K_one := by
    rintro w x cs ⟨A, c, rfl, _⟩ u hu
    rw [List.mem_singleton.1 hu]
    rfl
  K_below := by
    rintro w w1 x cs hb ⟨A, c, rfl, hl, hr⟩
    exact ⟨A, c, rfl, hl, C_below hr hb⟩
  K_of_M := by
    rintro w base ok x cs ⟨v, rfl, h⟩
    obtain ⟨A, c, rfl, hl, hr⟩ := R_reads h
    exact ⟨A, c, rfl, hl, hr⟩
  M_mono := by
    rintro w base ok ok' x cs hok ⟨v, rfl, h⟩
    exact ⟨v, rfl, R_mono h hok⟩
  M_bound := by
    rintro w base ok x cs ⟨v, rfl, h⟩
    exact ⟨v, rfl, R_bound h⟩
  M_move := by
    rintro w w1 base ok x cs hm ⟨v, rfl, h⟩
    exact ⟨v, rfl, R_move h hm⟩
  M_lower := by
    rintro w base base' ok x cs hb ⟨v, rfl, h⟩
    exact ⟨v, rfl, R_lower h hb⟩
end Kd
namespace Kd
structure Mono {α β : Type} (F : Kd α → Kd β) : Prop where
  sz : ∀ d d' : Kd α, d.sz = d'.sz → (F d).sz = (F d').sz
  K : ∀ d d' : Kd α, d.sz = d'.sz → (∀ w x cs, d.K w x cs → d'.K w x cs) → ∀ w x cs, (F d).K w x cs → (F d').K w x cs
  M : ∀ d d' : Kd α, d.sz = d'.sz → (∀ w base ok x cs, d.M w base ok x cs → d'.M w base ok x cs) → ∀ w base ok x cs, (F d).M w base ok x cs → (F d').M w base ok x cs
end Kd
def QRow (w : World) (base : Nat) (e : TypeId) (size : Nat) (v : Value) (n : Nat) (xs : List Value) : Prop :=
  xs.length = n * size ∧
  ((n = 0 ∧ ∃ A, v = .slice A 0 0 ∧ ∀ a, A = some a → base ≤ a.block ∧ ∃ cur, w.heap[a.block]? = some (.cells cur e (0, 0))) ∨
   ∃ g off cap cur, v = .slice (some ⟨g, off * size, none⟩) n cap ∧ base ≤ g ∧ w.heap[g]? = some (.cells cur e (0, 0)) ∧ n ≤ cap ∧ off + cap ≤ maxLen ∧ cur.size = (off + cap) * size ∧ (cur.toList.drop (off * size)).take (n * size) = xs)
section
variable {w w1 : World} {base n size : Nat} {e : TypeId} {v : Value} {xs : List Value}
theorem add_at (g o j : Nat) : (⟨g, o, none⟩ : Addr).add j = ⟨g, o + j, none⟩ := by unfold Addr.add; split <;> simp_all
theorem setCells_row {g : Nat} {e : TypeId} : ∀ (vs : List Value) (o : Nat) (w : World) (cur : Array Value), w.heap[g]? = some (.cells cur e (0, 0)) → o + vs.length ≤ cur.size →
    ∃ cur', (w.setCells g o vs).heap[g]? = some (.cells cur' e (0, 0)) ∧ cur'.size = cur.size ∧ cur'.toList = cur.toList.take o ++ vs ++ cur.toList.drop (o + vs.length)
  | [], o, w, cur, h, _ => ⟨cur, h, rfl, by simp⟩
  | v :: r, o, w, cur, h, hl => by
    have h2 := blk_set h o v
    simp only [List.length_cons] at hl
    obtain ⟨cur', h3, h4, h5⟩ := setCells_row r (o + 1) (w.setCell ⟨g, o, none⟩ v) _ h2 (by simp; omega)
    refine ⟨cur', h3, by rw [h4]; simp, ?_⟩
    rw [h5, Array.toList_setIfInBounds]
    have ho : o < cur.toList.length := by rw [Array.length_toList]; omega
    rw [List.take_set, List.drop_set_of_lt (by omega)]
    simp only [List.length_cons]
    rw [show o + 1 + r.length = o + (r.length + 1) by omega]
    congr 1
    rw [List.take_succ_eq_append_getElem ho, List.set_append_right _ _ (by rw [List.length_take]; omega)]
    have ho' : o < cur.size := by omega
    simp [Nat.min_eq_left (Nat.le_of_lt ho')]
end
namespace Kd
def Q {α : Type} (d : Kd α) (e : Nat) (w : World) (base : Nat) (ok : Nat → Prop) (v : Value) (xs : List α) : Prop :=
  (∀ k, v.ownBlock = some k → ok k) ∧ ∃ inner, QRow w base e d.sz v xs.length inner ∧ Reps (d.M w base (fun k => ok k ∧ some k ≠ v.ownBlock)) d.sz xs inner
end Kd
theorem add_add (a : Addr) (i j : Nat) : (a.add i).add j = a.add (i + j) := by
  unfold Addr.add
  by_cases h1 : i = 0 <;> by_cases h2 : j = 0 <;> simp [h1, h2, Nat.add_assoc]
theorem ReadsInt.nil (W : World) (k : IntKind) : ReadsInt W k none ([] : List Int).length [] := ⟨rfl, by simp, fun h => absurd h (Nat.lt_irrefl 0)⟩
theorem ReadsInt.drewN {W : World} {k : IntKind} {A : Option Addr} {n : Nat} {xs : List Int} (h : ReadsInt W k A n xs) (m : Nat) : ReadsInt (W.drewN m) k A n xs := h
theorem ReadsOf.nil {α : Type} (enc : α → Value) (d : α) (W : World) : ReadsOf enc d W none ([] : List α).length [] := ⟨rfl, by simp, fun h => absurd h (Nat.lt_irrefl 0)⟩
theorem ReadsOf.drewN {α : Type} {enc : α → Value} {d : α} {W : World} {A : Option Addr} {n : Nat} {xs : List α} (h : ReadsOf enc d W A n xs) (m : Nat) : ReadsOf enc d (W.drewN m) A n xs := h
section
variable {P : Program} {ops : Array Oper} {o : Oper} {a : Act} {Q : Exit → Act → World → Prop} {Kc : Act → World → Prop}
theorem event_step {W w1 : World} {v : Value} (hw : Region.wanted o (yielded ops a.tmps) = true) (hrun : (execOp a.eval o).run P W = .ok (.value v) w1) (h : Kc (a.put o.dst v) w1) : if Region.wanted o (yielded ops a.tmps) = true then Oper.wp P o a W Kc Q else Kc (a.put o.dst undef) W := by
  rw [if_pos hw]
  unfold Oper.wp
  rw [hrun]
  exact h
end
inductive Vals (P : Program) (tmps : Array Value) (w : World) : List ResultVar → List Value → Prop where
  | nil : Vals P tmps w [] []
  | tmp {u : Tmp} {rs : List ResultVar} {vs : List Value} (h : Vals P tmps w rs vs) : Vals P tmps w (.tmp u :: rs) (tmps.getD u undef :: vs)
  | cell {p : Tmp} {ty : TypeId} {rs : List ResultVar} {vs : List Value} (g : Nat) (t : TypeId) (cs : Array Value) (fr : Nat × Nat) (d : TypeDesc)
      (hp : tmps.getD p undef = .pointer (some ⟨g, 0, none⟩)) (hg : w.heap[g]? = some (.cells cs t fr))
      (hu : P.underlying ty = some d) (hd : (match d with | .struct _ | .array _ _ => true | _ => false) = true) (hi : (P.info? ty).map (·.size) = some cs.size)
      (h : Vals P tmps w rs vs) : Vals P tmps w (.cell p ty :: rs) (.agg cs :: vs)
end Go.Proofs.YtlfplmlehbomlaaDoorW.PrintWords
end

section
namespace Go.Proofs.YtlfplmlehbomlaaDoorW.PrintLast
section
variable {P : Program} {ops : Array Oper} {Q : Exit → Act → World → Prop} {md : Region.Mode} {S : World → Prop} {ds : List Nat}
def ListedClosed (md : Region.Mode) (ops : Array Oper) (listed : Array Bool) : Prop :=
  ∀ j oj, ops[j]? = some oj → listed.getD j false = true → ∀ e ∈ oj.after, Region.binds md e = true → listed.getD e.on false = true
theorem ListedClosed.set {listed : Array Bool} {i : Nat} (h : ListedClosed md ops listed) (hi : i ∈ Region.ready md ops listed) : ListedClosed md ops (listed.setIfInBounds i true) := by
  obtain ⟨_, oi, hoi, hall⟩ := mem_ready.1 hi
  intro j oj hj hl e he hb
  by_cases hij : i = j
  · subst hij
    have : oj = oi := Option.some.inj (hj.symm.trans hoi)
    subst this
    exact getD_set_true (hall e he hb)
  · rw [getD_set_ne false hij] at hl
    exact getD_set_true (h j oj hj hl e he hb)
def wpAnyLast (P : Program) (md : Region.Mode) (ops : Array Oper) (Q : Exit → Act → World → Prop) (S : World → Prop) (ds : List Nat) : Nat → Array Bool → Act → World → Prop
  | 0, listed, a, w => Region.ready md ops listed = [] ∧ Q .normal a w
  | fuel + 1, listed, a, w =>
    (Region.ready md ops listed = [] → Q .normal a w) ∧
    ∀ i ∈ Region.ready md ops listed, wpOp P ops Q i (fun a' w' => (i ∉ ds → S w → S w') ∧ wpAnyLast P md ops Q S ds fuel (listed.setIfInBounds i true) a' w') a w
theorem wpAny_of_last : ∀ (fuel : Nat) (listed : Array Bool) (a : Act) (w : World), wpAnyLast P md ops Q S ds fuel listed a w → wpAny P md ops Q fuel listed a w
  | 0, _, _, _, h => h
  | fuel + 1, _, _, _, h => ⟨h.1, fun i hi => wpOp_mono (fun a' w' h' => wpAny_of_last fuel _ a' w' h'.2) (h.2 i hi)⟩
theorem wp_region_last {id : Nat} {a : Act} {w : World} (hm : P.follows .mixedOrders = true)
    (h : wpAnyLast P .any ops Q S ds ops.size (Array.replicate ops.size false) a { w with drawn := w.drawn + 1 }) : (Code.region id ops true).wp P Q a w :=
  wp_region_any hm (wpAny_of_last _ _ _ _ h)
end
section
variable {P : Program} {ops : Array Oper} {Q : Exit → Act → World → Prop} {md : Region.Mode} {S : World → Prop} {ds : List Nat}
def AllReadyL (P : Program) (md : Region.Mode) (ops : Array Oper) (Q : Exit → Act → World → Prop) (S : World → Prop) (ds : List Nat) (fuel : Nat) (listed : Array Bool) (a : Act) (w : World) (rs : List Nat) : Prop :=
  ∀ i ∈ rs, wpOp P ops Q i (fun a' w' => (i ∉ ds → S w → S w') ∧ wpAnyLast P md ops Q S ds fuel (listed.setIfInBounds i true) a' w') a w
theorem AllReadyL.nil {fuel : Nat} {listed : Array Bool} {a : Act} {w : World} : AllReadyL P md ops Q S ds fuel listed a w [] := fun _ h => by cases h
theorem AllReadyL.cons {fuel : Nat} {listed : Array Bool} {a : Act} {w : World} {i : Nat} {o : Oper} {rs : List Nat} (ho : ops[i]? = some o) (hd : i ∉ ds)
    (h : ∀ K' : Act → World → Prop, Shut (∀ a w, S w → (S w → wpAnyLast P md ops Q S ds fuel (listed.setIfInBounds i true) a w) → K' a w) → if Region.wanted o (yielded ops a.tmps) = true then Oper.wp P o a w K' Q else K' (a.put o.dst undef) w)
    (hs : AllReadyL P md ops Q S ds fuel listed a w rs) : AllReadyL P md ops Q S ds fuel listed a w (i :: rs) := fun j hj => by
  rcases List.mem_cons.1 hj with rfl | hj
  · exact wpOp_step ho (fun K' hK => h K' (fun a w hS hW => hK a w ⟨fun _ _ => hS, hW hS⟩))
  · exact hs j hj
theorem start_ {id n : Nat} {a : Act} {w : World} (l : Array Bool) (hm : P.follows .mixedOrders = true) (hn : ops.size = n) (hl : Array.replicate n false = l) (hS : S w.drew)
    (h : S w.drew → wpAnyLast P .any ops Q S ds n l a w.drew) : (Code.region id ops true).wp P Q a w := by
  subst hn
  subst hl
  exact wp_region_last hm (h hS)
theorem call_ {oi : Oper} {N : Option Tmp} {a : Act} {w : World} {K : Act → World → Prop} (f : FuncId) (args : Array Value) (hw : Region.wanted oi (yielded ops a.tmps) = true) (hN : oi.dst = N) (hrun : (execOp a.eval oi).run P w = .ok (.enter f args) w)
    (h : Calls P f args w fun e w' => ∃ v, e = .returned v ∧ K (a.put N v) w') : if Region.wanted oi (yielded ops a.tmps) = true then Oper.wp P oi a w K Q else K (a.put N undef) w := by
  rw [if_pos hw]
  subst hN
  unfold Oper.wp
  rw [hrun, Oper.upon_enter]
  refine h.mono fun e w'' hh => ?_
  obtain ⟨v, rfl, hk⟩ := hh
  exact hk
theorem enters_ {f : FuncId} {fn : Func} (hf : P.funcs[f]? = some fn) (hname : (fn.name == "runtime.NumGoroutine") = false) (hb : fn.body.isSome = true) (args : Array Value) (w : World) : (callFunc f args).run P w = .ok (.enter f args) w := by
  have h1 : fn.name ≠ "runtime.NumGoroutine" := by simpa using hname
  obtain ⟨c, hc⟩ := Option.isSome_iff_exists.1 hb
  simp [callFunc, hf, h1, hc]
theorem goes_ {oi : Oper} {N : Option Tmp} {a : Act} {w : World} {K : Act → World → Prop} {f : FuncId} {fn : Func} {asz : Array Operand} {ts : Array TypeId} (hf : P.funcs[f]? = some fn) (hname : (fn.name == "runtime.NumGoroutine") = false) (hb : fn.body.isSome = true) (args : Array Value)
    (hw : Region.wanted oi (yielded ops a.tmps) = true) (hN : oi.dst = N) (hop : oi.op = .call { callee := .value (.func f), args := asz, argTypes := ts }) (hargs : asz.map a.eval = args)
    (h : Calls P f args w fun e w' => ∃ v, e = .returned v ∧ K (a.put N v) w') : if Region.wanted oi (yielded ops a.tmps) = true then Oper.wp P oi a w K Q else K (a.put N undef) w := by
  refine call_ f args hw hN ?_ h
  have he := enters_ hf hname hb args w
  unfold execOp
  simp [hop, resolve, Deferred.ofValue, invoke, Act.eval, hargs, he]
theorem goesL_ {rest : List Oper} {oi : Oper} {a : Act} {w : World} (N : Option Tmp) (hd : oi.dst = N) (hg : oi.guard = none) {f : FuncId} {fn : Func} {asz : Array Operand} {ts : Array TypeId} (hf : P.funcs[f]? = some fn) (hname : (fn.name == "runtime.NumGoroutine") = false) (hb : fn.body.isSome = true) (args : Array Value)
    (hop : oi.op = .call { callee := .value (.func f), args := asz, argTypes := ts }) (hargs : asz.map a.eval = args)
    (h : Calls P f args w fun e w' => ∃ v, e = .returned v ∧ wpList P ops Q rest (a.put N v) w') : wpList P ops Q (oi :: rest) a w := by
  refine wpList_plain hg fun K hK => ?_
  have he := enters_ hf hname hb args w
  have hrun : (execOp a.eval oi).run P w = .ok (.enter f args) w := by
    unfold execOp
    simp [hop, resolve, Deferred.ofValue, invoke, Act.eval, hargs, he]
  unfold Oper.wp
  rw [hrun, Oper.upon_enter]
  refine h.mono fun e w'' hh => ?_
  obtain ⟨v, rfl, hk⟩ := hh
  subst hd
  exact hK _ _ hk
theorem i64_w (n : Int) : IntKind.i64.wrap n = Go.RowKit.wrap64 n := by unfold Go.RowKit.wrap64; exact IntKind.wrap_i64 n
end
end Go.Proofs.YtlfplmlehbomlaaDoorW.PrintLast
end

section
namespace Go.Proofs.YtlfplmlehbomlaaDoorW.PrintWords
open Go.RowKit
namespace Kd
def tag {α : Type} (f : Nat → Nat) (d : Kd α) : Kd (α × Nat) where
  sz := d.sz
  E := d.E
  K := fun w x cs => d.K w x.1 cs
  M := fun w base ok x cs => d.M w base (fun k => ok k ∧ f k = x.2) x.1 cs
  K_len := fun h => d.K_len h
  K_one := fun h => d.K_one h
  K_below := fun hb h => d.K_below hb h
  K_of_M := fun h => d.K_of_M h
  M_mono := fun hok h => d.M_mono (fun k hk => ⟨hok k hk.1, hk.2⟩) h
  M_bound := fun h => d.M_mono (fun _ hk => ⟨⟨hk.1.1, hk.2⟩, hk.1.2⟩) (d.M_bound h)
  M_move := fun hm h => d.M_move (fun k hk => hm k hk.1) h
  M_lower := fun hb h => d.M_lower hb h
def raw (sz : Nat) : Kd (List Value) where
  sz := sz
  E := []
  K := fun _ x cs => cs = x ∧ cs.length = sz ∧ ∀ u ∈ cs, u.oneCell' = true
  M := fun _ _ _ x cs => cs = x ∧ cs.length = sz ∧ ∀ u ∈ cs, u.oneCell' = true
  K_len := fun h => h.2.1
  K_one := fun h => h.2.2
  K_below := fun _ h => h
  K_of_M := fun h => h
  M_mono := fun _ h => h
  M_bound := fun h => h
  M_move := fun _ h => h
  M_lower := fun _ h => h
def S {α : Type} (d : Kd α) (e : Nat) (w : World) (base : Nat) (ok : Nat → Prop) (v : Value) (xs : List α) : Prop := ∃ f, (tag f d).R e w base ok v xs.zipIdx
def gap {α : Type} (f : Nat → Nat) (d : Kd α) (i : Nat) (c : List Value) : Kd (α × Nat) where
  sz := d.sz
  E := d.E
  K := fun w x cs => (x.2 = i → cs = c ∧ cs.length = d.sz ∧ ∀ u ∈ cs, u.oneCell' = true) ∧ (x.2 ≠ i → d.K w x.1 cs)
  M := fun w base ok x cs => (x.2 = i → cs = c ∧ cs.length = d.sz ∧ ∀ u ∈ cs, u.oneCell' = true) ∧ (x.2 ≠ i → d.M w base (fun k => ok k ∧ f k = x.2) x.1 cs)
  K_len := fun {w x cs} h => by
    by_cases hx : x.2 = i
    · exact (h.1 hx).2.1
    · exact d.K_len (h.2 hx)
  K_one := fun {w x cs} h => by
    by_cases hx : x.2 = i
    · exact (h.1 hx).2.2
    · exact d.K_one (h.2 hx)
  K_below := fun hb h => ⟨h.1, fun hx => d.K_below hb (h.2 hx)⟩
  K_of_M := fun h => ⟨h.1, fun hx => d.K_of_M (h.2 hx)⟩
  M_mono := fun hok h => ⟨h.1, fun hx => d.M_mono (fun k hk => ⟨hok k hk.1, hk.2⟩) (h.2 hx)⟩
  M_bound := fun h => ⟨h.1, fun hx => d.M_mono (fun _ hk => ⟨⟨hk.1.1, hk.2⟩, hk.1.2⟩) (d.M_bound (h.2 hx))⟩
  M_move := fun hm h => ⟨h.1, fun hx => d.M_move (fun k hk => hm k hk.1) (h.2 hx)⟩
  M_lower := fun hb h => ⟨h.1, fun hx => d.M_lower hb (h.2 hx)⟩
def H {α : Type} (d : Kd α) (e : Nat) (w : World) (base : Nat) (ok : Nat → Prop) (v : Value) (xs : List α) (i : Int) (oki : Nat → Prop) (c : List Value) : Prop :=
  (∀ k, oki k → ok k) ∧ ∃ f, (gap f d i.toNat c).R e w base (fun k => ok k ∧ ¬ oki k) v xs.zipIdx
end Kd
end Go.Proofs.YtlfplmlehbomlaaDoorW.PrintWords
end

section
namespace Go.Proofs.YtlfplmlehbomlaaDoorW.PrintWords
open Go.RowKit
namespace Kd
structure Heap {α : Type} (d : Kd α) : Prop where
  K : ∀ {w w1 : World} {x : α} {cs : List Value}, (∀ k, k < w.heap.size → w1.heap[k]? = w.heap[k]?) → d.K w x cs → d.K w1 x cs
theorem cell_heap {w w1 : World} (hb : ∀ k, k < w.heap.size → w1.heap[k]? = w.heap[k]?) {a : Addr} {v : Value} (h : w.cell? a = some v) : w1.cell? a = some v := by
  have := hb a.block (World.block_lt_of_cell? w a h)
  simpa [World.cell?, this] using h
theorem Heap.C {α : Type} {d : Kd α} (hd : Heap d) {w w1 : World} {A : Option Addr} {n : Nat} {xs : List α} (hb : ∀ k, k < w.heap.size → w1.heap[k]? = w.heap[k]?) (h : d.C w A n xs) : d.C w1 A n xs :=
  ⟨h.1, h.2.1, fun hn => by
    obtain ⟨ad, e, hc⟩ := h.2.2 hn
    refine ⟨ad, e, fun j p hj => ?_⟩
    obtain ⟨c, hs, hr, hcell⟩ := hc j p hj
    exact ⟨c, hs, hd.K hb hr, fun i u hu => cell_heap hb (hcell i u hu)⟩⟩
end Kd
end Go.Proofs.YtlfplmlehbomlaaDoorW.PrintWords
end

section
namespace Go.Proofs.YtlfplmlehbomlaaDoorW.PrintWords
open Go.RowKit
def Kept (w W : World) (S : Nat → Prop) : Prop := w.heap.size ≤ W.heap.size ∧ ∀ i, i < w.heap.size → ¬ S i → W.heap[i]? = w.heap[i]?
section
variable {w W W2 : World} {S S2 S' : Nat → Prop}
theorem Kept.refl (w : World) (S : Nat → Prop) : Kept w w S := ⟨Nat.le_refl _, fun _ _ _ => rfl⟩
theorem Kept.of_below (h : Below w.heap.size w W) (S : Nat → Prop) : Kept w W S := ⟨h.size, fun i hi _ => h.block i hi⟩
theorem Kept.mono (h : Kept w W S) (hs : ∀ k, S k → S' k) : Kept w W S' := ⟨h.1, fun i hi hn => h.2 i hi (fun hk => hn (hs i hk))⟩
theorem Kept.then_ (h : Kept w W S) (k : Kept W W2 S2) (hs : ∀ k, S2 k → S k ∨ w.heap.size ≤ k) : Kept w W2 S :=
  ⟨Nat.le_trans h.1 k.1, fun i hi hn => (k.2 i (Nat.lt_of_lt_of_le hi h.1) (fun h2 => (hs i h2).elim hn (fun h3 => by omega))).trans (h.2 i hi hn)⟩
theorem Kept.below (h : Kept w W S) (hb : Below W.heap.size W W2) : Kept w W2 S := h.then_ (Kept.of_below hb (fun _ => False)) (fun _ hk => hk.elim)
theorem Kept.alloc (h : Kept w W S) (o : Obj) : Kept w (W.alloc o) S := h.below (below_alloc (Below.refl _ _) o)
theorem Kept.drew (h : Kept w W S) : Kept w W.drew S := h
theorem Kept.drewN (h : Kept w W S) (m : Nat) : Kept w (W.drewN m) S := h
theorem Kept.setCell (h : Kept w W S) {p : Addr} (hp : S p.block ∨ w.heap.size ≤ p.block) (u : Value) : Kept w (W.setCell p u) S :=
  h.then_ (S2 := fun k => k = p.block) ⟨by simp [World.setCell], fun i _ hn => Below.heap_setCell W p u i hn⟩ (fun k hk => by rw [hk]; exact hp)
end
end Go.Proofs.YtlfplmlehbomlaaDoorW.PrintWords
end

section
namespace Go.Proofs.YtlfplmlehbomlaaDoorW.PrintWords
open Go.RowKit
def Foot (P : World → Prop) (W : World) (ok : Nat → Prop) : Prop := ∀ W' : World, (∀ k, ok k → k < W.heap.size → W'.heap[k]? = W.heap[k]?) → P W'
theorem heap_lt {W W1 : World} {k : Nat} (h : W1.heap[k]? = W.heap[k]?) (hlt : k < W.heap.size) : k < W1.heap.size := by
  rw [Array.getElem?_eq_getElem hlt] at h
  exact (Array.getElem?_eq_some_iff.1 h).1
namespace Foot
variable {P Q : World → Prop} {W W1 : World} {ok ok' : Nat → Prop}
theorem mono (h : Foot P W ok) (hok : ∀ k, ok k → ok' k) : Foot P W ok' := fun W' hW => h W' (fun k hk hlt => hW k (hok k hk) hlt)
theorem step (h : Foot P W ok) (hm : ∀ k, ok k → k < W.heap.size → W1.heap[k]? = W.heap[k]?) : Foot P W1 ok := fun W' hW => h W' (fun k hk hlt => (hW k hk (heap_lt (hm k hk hlt) hlt)).trans (hm k hk hlt))
theorem imp (h : Foot P W ok) (hi : ∀ W', P W' → Q W') : Foot Q W ok := fun W' hW => hi W' (h W' hW)
end Foot
namespace Kd
def F {α : Type} (d : Kd α) (W : World) (ok : Nat → Prop) (A : Option Addr) (n : Nat) (xs : List α) : Prop := Foot (fun W => d.C W A n xs) W ok
def FK {α : Type} (d : Kd α) (W : World) (ok : Nat → Prop) (x : α) (c : List Value) : Prop := Foot (fun W => d.K W x c) W ok
end Kd
end Go.Proofs.YtlfplmlehbomlaaDoorW.PrintWords
end

section
namespace Go.Proofs.YtlfplmlehbomlaaDoorW.PrintWords
open Go.RowKit
namespace Kd
section
variable {α : Type} {d : Kd α} {e base n cc g : Nat} {ok ok' okp S : Nat → Prop} {w w1 W W1 : World} {A : Option Addr} {u v v1 : Value} {xs : List α} {x : α} {c : List Value}
def N {α : Type} (d : Kd α) (e : Nat) (w : World) (base : Nat) (ok : Nat → Prop) (v : Value) (xs : List α) : Prop :=
  (∀ k, v.ownBlock = some k → ok k) ∧ ∃ rows : List (List Value), rows.length = xs.length ∧ (raw d.sz).R e w base (fun k => some k = v.ownBlock) v rows ∧ ∀ (j : Nat) (x : α) (c : List Value), xs[j]? = some x → rows[j]? = some c → FK d w (fun k => ok k ∧ some k ≠ v.ownBlock) x c
end
end Kd
end Go.Proofs.YtlfplmlehbomlaaDoorW.PrintWords
end

section
namespace Go.Proofs.YtlfplmlehbomlaaDoorW.PrintWords
open Go.RowKit
section
variable {P : Program} {ops : Array Oper} {rest : List Oper} {o : Oper} {a : Act} {Q : Exit → Act → World → Prop} {W : World}
theorem gate_callee {f : FuncId} {asz : Array Operand} {ts : Array TypeId} (_ho : o.op = .call { callee := .value (.func f), args := asz, argTypes := ts }) (h : wpList P ops Q (o :: rest) a W) : wpList P ops Q (o :: rest) a W := h
end
def shr (k : IntKind) (x y : Int) : Int := x / 2 ^ min y.toNat k.bits
end Go.Proofs.YtlfplmlehbomlaaDoorW.PrintWords
namespace Go.Proofs.YtlfplmlehbomlaaDoorW.PrintWords
open Go.RowKit
namespace Kd
def V {α : Type} (d : Kd α) (_e : Nat) (W : World) (_base : Nat) (ok : Nat → Prop) (v : Value) (xs : List α) : Prop := ∃ A c, v = .slice A xs.length c ∧ xs.length ≤ c ∧ F d W ok A xs.length xs
end Kd
end Go.Proofs.YtlfplmlehbomlaaDoorW.PrintWords
end

section
namespace Go.Proofs.YtlfplmlehbomlaaDoorW.PrintLast
open Go.Proofs.YtlfplmlehbomlaaDoorW.PrintWords (Aside0)
def needsOf (md : Region.Mode) (o : Oper) : List Nat := (o.after.toList.filter (fun e => Region.binds md e)).map (fun e => e.on)
def clashOf (md : Region.Mode) (ops : Array Oper) (i : Nat) (oi : Oper) : List Nat := (List.range ops.size).filter fun j => !(j == i) && match ops[j]? with
  | some oj => !(oj.after.any (fun e => Region.binds md e && e.on == i) || oi.apart ops oj)
  | none => false
def rtab (md : Region.Mode) (ops : Array Oper) : Bool × List (List Nat × List Nat) := (Region.noSelect ops, (List.range ops.size).map fun i => match ops[i]? with
  | some o => (needsOf md o, clashOf md ops i o)
  | none => ([], []))
def readyAt (T : List (List Nat × List Nat)) (l : List Bool) (i : Nat) : Bool := !l.getD i true && match T[i]? with
  | some r => r.1.all (fun j => l.getD j false)
  | none => false
def readyT (T : List (List Nat × List Nat)) (l : List Bool) : List Nat := (List.range T.length).filter (readyAt T l)
section
variable {md : Region.Mode} {ops : Array Oper} {T : Bool × List (List Nat × List Nat)} {l l' li lj lk : Array Bool} {ds : List Nat} {i j k : Nat}
theorem gd (l : Array Bool) (j : Nat) (b : Bool) : l.getD j b = l.toList.getD j b := by simp [Array.getD_eq_getD_getElem?, List.getD_eq_getElem?_getD]
theorem needs_all (o : Oper) (p : Nat → Bool) : o.after.all (fun e => !Region.binds md e || p e.on) = (needsOf md o).all p := by
  unfold needsOf
  rw [← Array.all_toList]
  induction o.after.toList with
  | nil => rfl
  | cons e r ih =>
    rw [List.all_cons, ih, List.filter_cons]
    cases h : Region.binds md e <;> simp
theorem rtab_length : (rtab md ops).2.length = ops.size := by simp [rtab]
theorem rtab_some {o : Oper} (h : ops[i]? = some o) : (rtab md ops).2[i]? = some (needsOf md o, clashOf md ops i o) := by
  have hi := (Array.getElem?_eq_some_iff.1 h).1
  unfold rtab
  rw [List.getElem?_map, List.getElem?_range hi, Option.map_some, h]
theorem rtab_none (h : ops[i]? = none) : (rtab md ops).2[i]? = none := by
  have hi : ops.size ≤ i := Array.getElem?_eq_none_iff.1 h
  exact List.getElem?_eq_none (by rw [rtab_length]; exact hi)
theorem readyAt_eq : readyAt (rtab md ops).2 l.toList i = (!l.getD i true && ((ops[i]?).map (·.after.all fun e => !Region.binds md e || l.getD e.on false)).getD false) := by
  unfold readyAt
  rw [gd]
  cases h : ops[i]? with
  | none => rw [rtab_none h]; rfl
  | some o =>
    rw [rtab_some h]
    simp only [Option.map_some, Option.getD_some]
    rw [← needs_all]
    simp only [gd]
theorem ready_eq : Region.ready md ops l = readyT (rtab md ops).2 l.toList := by
  unfold Region.ready readyT
  rw [rtab_length]
  refine List.filter_congr (fun i _ => ?_)
  rw [readyAt_eq]
def upM (B : List Nat) (d : Nat) : List Nat → Nat
  | [] => 0
  | n :: r => (2 ^ n ||| (if n < d then B.getD n 0 else 0)) ||| upM B d r
def waitsOk (T : List (List Nat × List Nat)) (B : List Nat) : Bool := (List.range T.length).all fun d => match T[d]? with
  | some r => (B.getD d 0 ||| upM B d r.1) == upM B d r.1
  | none => false
theorem upM_bit {B : List Nat} {d i : Nat} : ∀ {ns : List Nat}, (upM B d ns).testBit i = true → ∃ n ∈ ns, n = i ∨ (n < d ∧ (B.getD n 0).testBit i = true)
  | [], h => by simp [upM] at h
  | n :: r, h => by
    unfold upM at h
    rw [Nat.testBit_or, Nat.testBit_or, Bool.or_eq_true, Bool.or_eq_true] at h
    rcases h with (h | h) | h
    · rw [Nat.testBit_two_pow] at h
      exact ⟨n, List.mem_cons_self, .inl (by simpa using h)⟩
    · by_cases hn : n < d
      · rw [if_pos hn] at h
        exact ⟨n, List.mem_cons_self, .inr ⟨hn, h⟩⟩
      · rw [if_neg hn] at h
        simp at h
    · obtain ⟨m, hm, h2⟩ := upM_bit h
      exact ⟨m, List.mem_cons_of_mem _ hm, h2⟩
end
def opsIn : Code → Nat → Option (Array Oper)
  | .region id ops _, k => if id == k then some ops else none
  | .seq a b, k => match opsIn a k with
    | some o => some o
    | none => opsIn b k
  | .cond _ a b, k => match opsIn a k with
    | some o => some o
    | none => opsIn b k
  | .block _ c, k => opsIn c k
  | .loop c, k => opsIn c k
  | .scope c, k => opsIn c k
  | .rangeFunc _ _ a b, k => match opsIn a k with
    | some o => some o
    | none => opsIn b k
  | _, _ => none
def opsOf (f : Func) (k : Nat) : Array Oper := ((f.body.bind fun c => opsIn c k)).getD #[]
end Go.Proofs.YtlfplmlehbomlaaDoorW.PrintLast
end

section
namespace Go.Proofs.YtlfplmlehbomlaaDoorW.PrintWords
theorem Reps.one {α : Type} {R : α → List Value → Prop} {ps : List α} {cs : List Value} {p : α} {v : Value} (hp : R p [v]) (h : Reps R 1 ps cs) : Reps R 1 (p :: ps) (v :: cs) := by
  refine ⟨by simp [h.1], fun j q hq => ?_⟩
  cases j with
  | zero =>
    simp only [List.getElem?_cons_zero, Option.some.injEq] at hq
    subst hq
    simpa using hp
  | succ j =>
    simp only [List.getElem?_cons_succ] at hq
    have h1 := h.2 j q hq
    simpa [Nat.mul_one] using h1
theorem Reps.front {α : Type} {R : α → List Value → Prop} {size : Nat} {ps : List α} {cs c all : List Value} {p : α} (hp : R p c) (hc : c.length = size) (h : Reps R size ps cs) (ha : c ++ cs = all) : Reps R size (p :: ps) all := by
  subst ha
  refine ⟨by rw [List.length_append, hc, h.1, List.length_cons, Nat.succ_mul, Nat.add_comm], fun j q hq => ?_⟩
  cases j with
  | zero =>
    simp only [List.getElem?_cons_zero, Option.some.injEq] at hq
    subst hq
    rw [Nat.zero_mul, List.drop_zero, List.take_append_of_le_length (by omega), List.take_of_length_le (by omega)]
    exact hp
  | succ j =>
    simp only [List.getElem?_cons_succ] at hq
    have h1 := h.2 j q hq
    rw [Nat.succ_mul, List.drop_append, List.drop_of_length_le (by rw [hc]; exact Nat.le_add_left _ _), List.nil_append, hc, Nat.add_sub_cancel]
    exact h1
theorem Reps.c2 {α : Type} {R : α → List Value → Prop} {ps : List α} {cs : List Value} {p : α} {va vb : Value} (hp : R p [va, vb]) (h : Reps R 2 ps cs) : Reps R 2 (p :: ps) (va :: vb :: cs) := Reps.front hp rfl h rfl
theorem Reps.c3 {α : Type} {R : α → List Value → Prop} {ps : List α} {cs : List Value} {p : α} {va vb vc : Value} (hp : R p [va, vb, vc]) (h : Reps R 3 ps cs) : Reps R 3 (p :: ps) (va :: vb :: vc :: cs) := Reps.front hp rfl h rfl
theorem Reps.c4 {α : Type} {R : α → List Value → Prop} {ps : List α} {cs : List Value} {p : α} {va vb vc vd : Value} (hp : R p [va, vb, vc, vd]) (h : Reps R 4 ps cs) : Reps R 4 (p :: ps) (va :: vb :: vc :: vd :: cs) := Reps.front hp rfl h rfl
theorem Reps.c5 {α : Type} {R : α → List Value → Prop} {ps : List α} {cs : List Value} {p : α} {va vb vc vd ve : Value} (hp : R p [va, vb, vc, vd, ve]) (h : Reps R 5 ps cs) : Reps R 5 (p :: ps) (va :: vb :: vc :: vd :: ve :: cs) := Reps.front hp rfl h rfl
theorem Reps.c6 {α : Type} {R : α → List Value → Prop} {ps : List α} {cs : List Value} {p : α} {va vb vc vd ve vf : Value} (hp : R p [va, vb, vc, vd, ve, vf]) (h : Reps R 6 ps cs) : Reps R 6 (p :: ps) (va :: vb :: vc :: vd :: ve :: vf :: cs) := Reps.front hp rfl h rfl
theorem Reps.c7 {α : Type} {R : α → List Value → Prop} {ps : List α} {cs : List Value} {p : α} {va vb vc vd ve vf vg : Value} (hp : R p [va, vb, vc, vd, ve, vf, vg]) (h : Reps R 7 ps cs) : Reps R 7 (p :: ps) (va :: vb :: vc :: vd :: ve :: vf :: vg :: cs) := Reps.front hp rfl h rfl
theorem Reps.c8 {α : Type} {R : α → List Value → Prop} {ps : List α} {cs : List Value} {p : α} {va vb vc vd ve vf vg vh : Value} (hp : R p [va, vb, vc, vd, ve, vf, vg, vh]) (h : Reps R 8 ps cs) : Reps R 8 (p :: ps) (va :: vb :: vc :: vd :: ve :: vf :: vg :: vh :: cs) := Reps.front hp rfl h rfl
theorem Reps.c9 {α : Type} {R : α → List Value → Prop} {ps : List α} {cs : List Value} {p : α} {va vb vc vd ve vf vg vh vi : Value} (hp : R p [va, vb, vc, vd, ve, vf, vg, vh, vi]) (h : Reps R 9 ps cs) : Reps R 9 (p :: ps) (va :: vb :: vc :: vd :: ve :: vf :: vg :: vh :: vi :: cs) := Reps.front hp rfl h rfl
end Go.Proofs.YtlfplmlehbomlaaDoorW.PrintWords
end

section
namespace Go.Proofs.YtlfplmlehbomlaaDoor.P
set_option linter.unusedVariables false
set_option linter.unusedSimpArgs false
open Go.RowKit Go.ChangeShapes Go.WideShapes Go.Proofs.YtlfplmlehbomlaaDoorW.PrintWords Go.Proofs.YtlfplmlehbomlaaDoorW.PrintLast Go.Proofs.YtlfplmlehbomlaaDoorW.PrintMore
@[local go_sem] theorem setCell_drewN (w : World) (n : Nat) (a : Addr) (v : Value) : (w.drewN n).setCell a v = (w.setCell a v).drewN n := rfl
structure Aside0 (p : Prop) : Prop where
  out : p
theorem u64w (x : Int) (h0 : 0 ≤ x) (h1 : x < 18446744073709551616) : IntKind.u64.wrap x = x := by
  have : x % 18446744073709551616 = x := by omega
  exact this
def putA : Array Value → Nat → List Value → Array Value
  | cs, _, [] => cs
  | cs, o, v :: r => putA (cs.setIfInBounds o v) (o + 1) r
theorem setCells_row {g : Nat} {t : TypeId} : ∀ (vs : List Value) (o : Nat) (w : World) (cs : Array Value), w.heap[g]? = some (.cells cs t (0, 0)) → (w.setCells g o vs).heap[g]? = some (.cells (putA cs o vs) t (0, 0))
  | [], _, _, _, h => h
  | v :: r, o, w, cs, h => setCells_row r (o + 1) _ _ (heap_setCell_same w g o cs t v h)
theorem putA_get : ∀ (vs : List Value) (o : Nat) (cs : Array Value) (j : Nat), o + vs.length ≤ cs.size → (putA cs o vs)[j]? = if o ≤ j ∧ j < o + vs.length then vs[j - o]? else cs[j]?
  | [], o, cs, j, h => by
    have : ¬ (o ≤ j ∧ j < o + ([] : List Value).length) := by simp only [List.length_nil]; omega
    rw [if_neg this]; rfl
  | v :: r, o, cs, j, h => by
    simp only [List.length_cons] at h
    rw [putA, putA_get r (o + 1) _ j (by simp; omega)]
    simp only [List.length_cons]
    by_cases h1 : j = o
    · subst h1
      rw [if_neg (by omega), if_pos (by omega)]
      simp only [Nat.sub_self, List.getElem?_cons_zero]
      rw [Array.getElem?_setIfInBounds_self_of_lt (by omega)]
    · rw [Array.getElem?_setIfInBounds_ne (by omega)]
      by_cases h2 : o ≤ j ∧ j < o + (r.length + 1)
      · rw [if_pos (by omega), if_pos h2]
        have e : j - o = (j - (o + 1)) + 1 := by omega
        rw [e, List.getElem?_cons_succ]
      · rw [if_neg (by omega), if_neg h2]
theorem putA_full (vs : List Value) (cs : Array Value) (h : vs.length = cs.size) : putA cs 0 vs = vs.toArray := by
  apply Array.ext_getElem?
  intro j
  rw [putA_get vs 0 cs j (by omega)]
  simp only [Nat.zero_le, true_and, Nat.zero_add, Nat.sub_zero, List.getElem?_toArray]
  by_cases hj : j < vs.length
  · rw [if_pos hj]
  · rw [if_neg hj, Array.getElem?_eq_none (by omega), List.getElem?_eq_none (by omega)]
theorem row_set_all {w : World} {g : Nat} {t : TypeId} {cs vs : Array Value} (hg : w.heap[g]? = some (.cells cs t (0, 0))) (hs : vs.size = cs.size) : (w.setCells g 0 vs.toList).heap[g]? = some (.cells vs t (0, 0)) := by
  have h := setCells_row vs.toList 0 w cs hg
  rw [putA_full _ _ (by simpa using hs)] at h
  simpa using h
theorem bel_setCells {B g : Nat} {w : World} (hg : B ≤ g) : ∀ (vs : List Value) (o : Nat) (W : World), Below B w W → Below B w (W.setCells g o vs)
  | [], _, _, h => h
  | v :: r, o, W, h => bel_setCells hg r (o + 1) _ (h.setCell hg v)
theorem setCells_size (g : Nat) : ∀ (vs : List Value) (o : Nat) (W : World), (W.setCells g o vs).heap.size = W.heap.size
  | [], _, _ => rfl
  | v :: r, o, W => by rw [World.setCells, setCells_size g r]; simp [World.setCell]
theorem setCells_other {g k : Nat} (h : k ≠ g) : ∀ (vs : List Value) (o : Nat) (W : World), (W.setCells g o vs).heap[k]? = W.heap[k]?
  | [], _, _ => rfl
  | v :: r, o, W => by rw [World.setCells, setCells_other h r]; exact heap_setCell_other _ _ _ _ h
theorem run_storeVar_row {P : Program} (ty : TypeId) (ie : TypeInfo) (hie : P.info? ty = some ie) (g : Nat) (t : TypeId) (cs vs : Array Value) (w : World) (hg : w.heap[g]? = some (.cells cs t (0, 0))) (hs : vs.size = cs.size) (hi : cs.size = ie.size)
    (h1 : ∀ v ∈ vs.toList, v.oneCell' = true) : (storeVar ty ⟨g, 0, none⟩ (.agg vs)).run P w = .ok () (w.setCells g 0 vs.toList) := by
  have h := run_storeCells_cells (P := P) g 0 vs.toList 0 w
    (fun k hk => by
      rw [Nat.add_zero, Nat.zero_add, cell_of_row w g k cs t _ hg, Array.getElem?_eq_getElem (by simp at hk; omega)]; rfl)
    (fun k hk => frozen_of_row w g _ cs t hg) h1
  have hti : (typeInfo ty).run P w = .ok ie w := by simp [typeInfo, hie]
  simp [storeVar, Value.cells, sizeOf, hti, hs, hi, h, Result.andThen]
inductive SC where
  | i (k : IntKind) (n : Int)
  | b (b : Bool)
  | s (s : ByteArray)
  | p (a : Option Addr)
  | sl (a : Option Addr) (len cap : Nat)
def SC.v : SC → Value
  | .i k n => .int k n
  | .b x => .bool x
  | .s x => .string x
  | .p x => .pointer x
  | .sl a n c => .slice a n c
abbrev CK : Type := Unit
abbrev mkc (k : CK) (x : SC) : Value := x.v
theorem mkc_one (k : CK) (x : SC) : (mkc k x).oneCell' = true := by cases x <;> rfl
def FR (k : CK) (n : Nat) (f : Nat → SC) : Array Value := ((List.range n).map fun i => mkc k (f i)).toArray
theorem FR_size (k : CK) (n : Nat) (f : Nat → SC) : (FR k n f).size = n := by simp [FR]
theorem FR_at (k : CK) (n : Nat) (f : Nat → SC) (i : Nat) (h : i < n) : (FR k n f)[i]? = some (mkc k (f i)) := by simp [FR, h]
theorem FR_out (k : CK) (n : Nat) (f : Nat → SC) (i : Nat) (h : ¬ i < n) : (FR k n f)[i]? = none := by
  apply Array.getElem?_eq_none; rw [FR_size]; omega
theorem FR_one (k : CK) (n : Nat) (f : Nat → SC) : ∀ v ∈ (FR k n f).toList, v.oneCell' = true := by
  intro v hv
  simp only [FR, List.mem_map] at hv
  obtain ⟨i, _, rfl⟩ := hv
  exact mkc_one _ _
def upd (f : Nat → SC) (i : Nat) (x : SC) : Nat → SC := fun j => if j = i then x else f j
theorem upd_same (f : Nat → SC) (i : Nat) (x : SC) : upd f i x i = x := if_pos rfl
theorem upd_other (f : Nat → SC) (i j : Nat) (x : SC) (h : j ≠ i) : upd f i x j = f j := if_neg h
theorem FR_set (k : CK) (n : Nat) (f : Nat → SC) (i : Nat) (x : SC) (h : i < n) : (FR k n f).setIfInBounds i (mkc k x) = FR k n (upd f i x) := by
  apply Array.ext_getElem?
  intro j
  by_cases hj : j = i
  · subst hj
    rw [Array.getElem?_setIfInBounds_self_of_lt (by rw [FR_size]; exact h), FR_at _ _ _ _ h, upd_same]
  · rw [Array.getElem?_setIfInBounds_ne (fun e => hj e.symm)]
    by_cases hn : j < n
    · rw [FR_at _ _ _ _ hn, FR_at _ _ _ _ hn, upd_other _ _ _ _ hj]
    · rw [FR_out _ _ _ _ hn, FR_out _ _ _ _ hn]
def Row (w : World) (g : Nat) (k : CK) (n : Nat) (f : Nat → SC) (t : TypeId) : Prop := w.heap[g]? = some (.cells (FR k n f) t (0, 0))
theorem Row.cell {w : World} {g : Nat} {k : CK} {n : Nat} {f : Nat → SC} {t : TypeId} (h : Row w g k n f t) (i : Nat) (hi : i < n) : w.cell? ⟨g, i, none⟩ = some (mkc k (f i)) := by
  rw [cell_of_row w g i _ t _ h, FR_at _ _ _ _ hi]
theorem Row.fro {w : World} {g : Nat} {k : CK} {n : Nat} {f : Nat → SC} {t : TypeId} (h : Row w g k n f t) (i : Nat) : w.frozen? ⟨g, i, none⟩ = false := frozen_of_row w g i _ t h
theorem Row.set {w : World} {g : Nat} {k : CK} {n : Nat} {f : Nat → SC} {t : TypeId} (h : Row w g k n f t) (i : Nat) (x : SC) (hi : i < n) : Row (w.setCell ⟨g, i, none⟩ (mkc k x)) g k n (upd f i x) t := by
  have := heap_setCell_same w g i _ t (mkc k x) h
  rwa [FR_set _ _ _ _ _ hi] at this
theorem Row.other {w : World} {g : Nat} {k : CK} {n : Nat} {f : Nat → SC} {t : TypeId} (h : Row w g k n f t) (a : Addr) (v : Value) (ha : g ≠ a.block) : Row (w.setCell a v) g k n f t :=
  (heap_setCell_other w a g v ha).trans h
theorem Row.lt {w : World} {g : Nat} {k : CK} {n : Nat} {f : Nat → SC} {t : TypeId} (h : Row w g k n f t) : g < w.heap.size := (Array.getElem?_eq_some_iff.1 h).1
theorem Row.alloc {w : World} {g : Nat} {k : CK} {n : Nat} {f : Nat → SC} {t : TypeId} (h : Row w g k n f t) (o : Obj) : Row (w.alloc o) g k n f t := by
  have hlt := h.lt
  have e : (w.alloc o).heap[g]? = w.heap[g]? := Below.heap_alloc w o g hlt
  exact e.trans h
theorem Row.new (w : World) (k : CK) (n : Nat) (f : Nat → SC) (t : TypeId) : Row (w.alloc (.cells (FR k n f) t)) w.heap.size k n f t := heap_alloc_new w _
theorem Row.below {w w' : World} {B g : Nat} {k : CK} {n : Nat} {f : Nat → SC} {t : TypeId} (h : Row w g k n f t) (hb : Below B w w') (hg : g < B) : Row w' g k n f t := (hb.block g hg).trans h
theorem Row.drewN {w : World} {g : Nat} {k : CK} {n : Nat} {f : Nat → SC} {t : TypeId} (h : Row w g k n f t) (m : Nat) : Row (w.drewN m) g k n f t := h
theorem Row.all {w : World} {g : Nat} {k : CK} {n : Nat} {f f' : Nat → SC} {t : TypeId} (h : Row w g k n f t) : Row (w.setCells g 0 (FR k n f').toList) g k n f' t := row_set_all h (by rw [FR_size, FR_size])
structure Stored (w w' : World) (g : Nat) : Prop where
  other : ∀ k, k ≠ g → w'.heap[k]? = w.heap[k]?
  size : w'.heap.size = w.heap.size
  bel : ∀ B W, B ≤ g → Below B W w → Below B W w'
theorem Row.stored {w w' : World} {g g' : Nat} {k : CK} {n : Nat} {f : Nat → SC} {t : TypeId} (h : Row w g k n f t) (hs : Stored w w' g') (hg : g ≠ g') : Row w' g k n f t := (hs.other g hg).trans h
theorem row_results {P : Program} {fn : Func} {p : Tmp} {ty : TypeId} (h : fn.results = #[.cell p ty]) {tmps : Array Value} {w : World} {g : Nat} {k : CK} {n : Nat} {f : Nat → SC} {t : TypeId} {d : TypeDesc}
    (hr : Row w g k n f t) (hp : tmps.getD p undef = .pointer (some ⟨g, 0, none⟩)) (hu : P.underlying ty = some d) (hd : (match d with | .struct _ | .array _ _ => true | _ => false) = true) (hi : (P.info? ty).map (·.size) = some n) :
    (results fn tmps).run P w = .ok (.agg (FR k n f)) w :=
  results_cell_row h tmps w g t (FR k n f) (0, 0) d hp hr hu hd (by rw [FR_size]; exact hi)
theorem w64 (n : Int) (h : -9223372036854775808 ≤ n ∧ n ≤ 9223372036854775807) : wrap64 n = n := by unfold wrap64; omega
theorem exec_load {P : Program} {o : Oper} {ev : Operand → Value} {w : World} {ty : TypeId} {x : Operand} {g : Nat} {k : CK} {n : Nat} {f : Nat → SC} {t : TypeId} {d : TypeDesc} (hr : Row w g k n f t)
    (hu : P.underlying ty = some d) (hi : (P.info? ty).map (·.size) = some n) (hd : (match d with | .struct _ | .array _ _ => true | _ => false) = true) (ho : o.op = .load ty x) (hx : ev x = .pointer (some ⟨g, 0, none⟩)) : (execOp ev o).run P w = .ok (.value (.agg (FR k n f))) w := by
  unfold execOp
  simp only [ho, hx, Instr.loadAt, Instr.sureAddr, Sem.run_bind, Sem.run_pure, Result.andThen_ok, run_loadVar_row w g t ty _ _ d hr hu hd (by rw [FR_size]; exact hi)]
theorem oper_storeG {P : Program} {o : Oper} {ops : Array Oper} {a : Act} {w : World} {K : Act → World → Prop} {Q : Exit → Act → World → Prop} {k : CK} {n : Nat} {f : Nat → SC} {t ty : TypeId} {x y : Operand} {g : Nat}
    (f' : Nat → SC) (hr : Row w g k n f t) (hi : (P.info? ty).map (·.size) = some n) (hw : Region.wanted o (yielded ops a.tmps) = true) (hdst : o.dst = none) (ho : o.op = .store ty x y) (hx : a.eval x = .pointer (some ⟨g, 0, none⟩)) (hy : a.eval y = .agg (FR k n f'))
    (h : ∀ w', Stored w w' g → Row w' g k n f' t → K a w') : if Region.wanted o (yielded ops a.tmps) = true then Oper.wp P o a w K Q else K (a.put none undef) w := by
  rw [if_pos hw]
  obtain ⟨ie, hie, hs⟩ : ∃ ie, P.info? ty = some ie ∧ ie.size = n := by
    cases he : P.info? ty with
    | none => rw [he] at hi; cases hi
    | some ie => rw [he] at hi; exact ⟨ie, rfl, Option.some.inj hi⟩
  unfold Oper.wp execOp
  simp only [ho, hx, hy, Instr.storeAt, Instr.sureAddr, Sem.run_bind, Sem.run_pure, Result.andThen_ok, run_storeVar_row ty ie hie g t (FR k n f) (FR k n f') w hr (by rw [FR_size, FR_size]) (by rw [FR_size, hs]) (FR_one k n f')]
  have := h _ ⟨fun k hk => setCells_other hk _ _ _, setCells_size g _ _ _, fun B W hB hb => bel_setCells hB _ _ _ hb⟩ (Row.all hr)
  show K (a.put o.dst undef) _
  rw [hdst]
  exact this
end Go.Proofs.YtlfplmlehbomlaaDoor.P
end

section
namespace Go.Proofs.YtlfplmlehbomlaaDoorW.PrintLast
def up (b : Nat → Bool) (i : Nat) : Nat → Bool := fun j => if j = i then true else b j
theorem up_self (b : Nat → Bool) (i : Nat) : up b i i = true := by simp [up]
theorem up_ne {b : Nat → Bool} {i j : Nat} (h : j ≠ i) : up b i j = b j := by simp [up, h]
def lof (n : Nat) (O : List Nat) (b : Nat → Bool) : List Bool := (List.range n).map fun j => if O.contains j then b j else true
def zQ (a : Act) (b : Nat → Bool) : List (Nat × Tmp × Value) → Act
  | [] => a
  | e :: r => zQ (if b e.1 = true then a.put (some e.2.1) e.2.2 else a) b r
section
variable {P : Program} {ops : Array Oper} {Q : Exit → Act → World → Prop} {md : Region.Mode} {T : Bool × List (List Nat × List Nat)} {B : List Nat} {O : List Nat} {b : Nat → Bool} {i j n : Nat}
theorem lof_length : (lof n O b).length = n := by simp [lof]
theorem lof_get {d : Bool} (hj : j < n) : (lof n O b).getD j d = if O.contains j then b j else true := by
  simp [lof, List.getD_eq_getElem?_getD, hj]
theorem lof_up (hi : O.contains i = true) : (lof n O b).set i true = lof n O (up b i) := by
  apply List.ext_getElem?
  intro j
  by_cases hj : j < n
  · by_cases hij : i = j
    · subst hij
      have hl : i < (lof n O b).length := by rw [lof_length]; exact hj
      rw [List.getElem?_set_self hl]
      simp only [lof, List.getElem?_map, List.getElem?_range hj, Option.map_some, hi, if_true, up_self]
    · rw [List.getElem?_set_ne hij]
      simp only [lof, List.getElem?_map, List.getElem?_range hj, Option.map_some]
      rw [up_ne (Ne.symm hij)]
  · rw [List.getElem?_eq_none (by simp [lof]; omega), List.getElem?_eq_none (by simp [lof]; omega)]
def StepAt (P : Program) (ops : Array Oper) (Q : Exit → Act → World → Prop) (B : List Nat) (O : List Nat) (I : (Nat → Bool) → Act → World → Prop) (i : Nat) : Prop :=
  ∀ b a w, I b a w → b i = false → (∀ j, (O.contains j && (B.getD i 0).testBit j) = true → b j = true) → (∀ d, (O.contains d && (B.getD d 0).testBit i) = true → b d = false) →
    ∃ oi, ops[i]? = some oi ∧ ∀ K : Act → World → Prop, Shut (∀ a' w', I (up b i) a' w' → K a' w') → if Region.wanted oi (yielded ops a.tmps) = true then Oper.wp P oi a w K Q else K (a.put oi.dst undef) w
theorem zF {I : (Nat → Bool) → Act → World → Prop} : ∀ i ∈ ([] : List Nat), StepAt P ops Q B O I i := fun _ h => by cases h
theorem zA {I : (Nat → Bool) → Act → World → Prop} {rs : List Nat} (h : StepAt P ops Q B O I i) (hs : ∀ j ∈ rs, StepAt P ops Q B O I j) : ∀ j ∈ i :: rs, StepAt P ops Q B O I j := fun j hj => by
  rcases List.mem_cons.1 hj with rfl | hj
  · exact h
  · exact hs j hj
def baseOk (T : List (List Nat × List Nat)) (O : List Nat) : Bool :=
  (List.range T.length).all (fun d => match T[d]? with
    | some r => (O.contains d || r.1.all fun n => !O.contains n) && r.1.all fun n => decide (n < d)
    | none => false) && O.all (fun i => decide (i < T.length)) && decide O.Nodup
theorem baseOk_row {T : List (List Nat × List Nat)} (h : baseOk T O = true) {d : Nat} {r : List Nat × List Nat} (hr : T[d]? = some r) : (O.contains d = false → ∀ n ∈ r.1, O.contains n = false) ∧ ∀ n ∈ r.1, n < d := by
  simp only [baseOk, Bool.and_eq_true] at h
  have h1 := List.all_eq_true.1 h.1.1 d (List.mem_range.2 (List.getElem?_eq_some_iff.1 hr).1)
  rw [hr] at h1
  simp only [Bool.and_eq_true, Bool.or_eq_true, List.all_eq_true, decide_eq_true_eq] at h1
  refine ⟨fun hd n hn => ?_, h1.2⟩
  rcases h1.1 with h2 | h2
  · rw [hd] at h2; cases h2
  · simpa using h2 n hn
theorem baseOk_lt {T : List (List Nat × List Nat)} (h : baseOk T O = true) {i : Nat} (hi : i ∈ O) : i < T.length := by
  simp only [baseOk, Bool.and_eq_true] at h
  simpa using List.all_eq_true.1 h.1.2 i hi
theorem baseOk_nodup {T : List (List Nat × List Nat)} (h : baseOk T O = true) : O.Nodup := by
  simp only [baseOk, Bool.and_eq_true] at h
  exact of_decide_eq_true h.2
def Closed (T : List (List Nat × List Nat)) (O : List Nat) (b : Nat → Bool) : Prop := ∀ d r, T[d]? = some r → O.contains d = true → b d = true → ∀ n ∈ r.1, O.contains n = true → b n = true
theorem bits_out {T : List (List Nat × List Nat)} (hw : waitsOk T B = true) (hk : baseOk T O = true) : ∀ (m d : Nat), d ≤ m → d < T.length → O.contains d = false → ∀ j, (B.getD d 0).testBit j = true → O.contains j = false := by
  intro m
  induction m with
  | zero =>
    intro d hd hl hO j hj
    have hd0 : d = 0 := by omega
    subst hd0
    have hr : T[0]? = some T[0] := List.getElem?_eq_getElem hl
    have h1 := List.all_eq_true.1 hw 0 (List.mem_range.2 hl)
    rw [hr] at h1
    simp only [beq_iff_eq] at h1
    have h2 : (upM B 0 T[0].1).testBit j = true := by rw [← h1, Nat.testBit_or, hj, Bool.true_or]
    obtain ⟨n, hn, h3⟩ := upM_bit h2
    have := (baseOk_row hk hr).2 n hn
    omega
  | succ m ih =>
    intro d hd hl hO j hj
    have hr : T[d]? = some T[d] := List.getElem?_eq_getElem hl
    have h1 := List.all_eq_true.1 hw d (List.mem_range.2 hl)
    rw [hr] at h1
    simp only [beq_iff_eq] at h1
    have h2 : (upM B d T[d].1).testBit j = true := by rw [← h1, Nat.testBit_or, hj, Bool.true_or]
    obtain ⟨n, hn, h3⟩ := upM_bit h2
    have hO2 := (baseOk_row hk hr).1 hO n hn
    rcases h3 with rfl | ⟨h4, h5⟩
    · exact hO2
    · exact ih n (by omega) (by omega) hO2 j h5
theorem closed_bits {T : List (List Nat × List Nat)} (hw : waitsOk T B = true) (hk : baseOk T O = true) (hc : Closed T O b) : ∀ (m d : Nat), d ≤ m → d < T.length → O.contains d = true → b d = true → ∀ j, O.contains j = true → (B.getD d 0).testBit j = true → b j = true := by
  intro m
  induction m with
  | zero =>
    intro d hd hl hO hb j hjO hj
    have hd0 : d = 0 := by omega
    subst hd0
    have hr : T[0]? = some T[0] := List.getElem?_eq_getElem hl
    have h1 := List.all_eq_true.1 hw 0 (List.mem_range.2 hl)
    rw [hr] at h1
    simp only [beq_iff_eq] at h1
    have h2 : (upM B 0 T[0].1).testBit j = true := by rw [← h1, Nat.testBit_or, hj, Bool.true_or]
    obtain ⟨n, hn, h3⟩ := upM_bit h2
    have := (baseOk_row hk hr).2 n hn
    omega
  | succ m ih =>
    intro d hd hl hO hb j hjO hj
    have hr : T[d]? = some T[d] := List.getElem?_eq_getElem hl
    have h1 := List.all_eq_true.1 hw d (List.mem_range.2 hl)
    rw [hr] at h1
    simp only [beq_iff_eq] at h1
    have h2 : (upM B d T[d].1).testBit j = true := by rw [← h1, Nat.testBit_or, hj, Bool.true_or]
    obtain ⟨n, hn, h3⟩ := upM_bit h2
    rcases h3 with rfl | ⟨h4, h5⟩
    · exact hc d _ hr hO hb n hn hjO
    · cases hO2 : O.contains n with
      | true => exact ih n (by omega) (by omega) hO2 (hc d _ hr hO hb n hn hO2) j hjO h5
      | false =>
        have := bits_out hw hk n n (Nat.le_refl _) (by omega) hO2 j h5
        rw [hjO] at this
        cases this
theorem up_count : ∀ {O : List Nat}, O.Nodup → i ∈ O → b i = false → (O.filter fun j => !up b i j).length + 1 = (O.filter fun j => !b j).length
  | [], _, hi, _ => by cases hi
  | x :: r, hn, hi, hb => by
    rw [List.nodup_cons] at hn
    rcases List.mem_cons.1 hi with rfl | hi
    · have h1 : (r.filter fun j => !up b i j) = r.filter fun j => !b j := by
        refine List.filter_congr (fun j hj => ?_)
        rw [up_ne (fun e => hn.1 (by rw [← e]; exact hj))]
      rw [List.filter_cons, List.filter_cons]
      simp [up_self, hb, h1]
    · have hxi : x ≠ i := fun e => hn.1 (e ▸ hi)
      have h1 := up_count hn.2 hi hb
      rw [List.filter_cons, List.filter_cons, up_ne hxi]
      cases hbx : b x
      · simp only [Bool.not_false, if_true, List.length_cons]
        omega
      · simpa using h1
theorem inv_all (hT : rtab md ops = T) (hw : waitsOk T.2 B = true) (hk : baseOk T.2 O = true) (I : (Nat → Bool) → Act → World → Prop) (hs : ∀ i ∈ O, StepAt P ops Q B O I i)
    (hend : ∀ b a w, (∀ j, O.contains j = true → b j = true) → I b a w → Q .normal a w) :
    ∀ (m : Nat) (b : Nat → Bool) (a : Act) (w : World), (O.filter fun j => !b j).length = m → Closed T.2 O b → I b a w → wpAnyLast P md ops Q (fun _ => True) [] m (lof T.2.length O b).toArray a w := by
  subst hT
  have mem_ready' : ∀ {b : Nat → Bool} {i : Nat}, i ∈ Region.ready md ops (lof (rtab md ops).2.length O b).toArray → i < (rtab md ops).2.length ∧ O.contains i = true ∧ b i = false ∧ ∀ r, (rtab md ops).2[i]? = some r → ∀ n ∈ r.1, n < (rtab md ops).2.length → O.contains n = true → b n = true := by
    intro b i hi
    rw [ready_eq] at hi
    unfold readyT at hi
    rw [List.mem_filter, List.mem_range] at hi
    obtain ⟨hl, h1⟩ := hi
    unfold readyAt at h1
    rw [Bool.and_eq_true, lof_get hl] at h1
    obtain ⟨h2, h3⟩ := h1
    have h4 : O.contains i = true := by
      cases h : O.contains i with
      | true => rfl
      | false => rw [h] at h2; simp at h2
    rw [h4] at h2
    refine ⟨hl, h4, by simpa using h2, fun r hr n hn hnl hO => ?_⟩
    rw [hr] at h3
    simp only [List.all_eq_true] at h3
    have h5 := h3 n hn
    rw [lof_get hnl, hO] at h5
    simpa using h5
  intro m
  induction m with
  | zero =>
    intro b a w hm hc hI
    have hall : ∀ j, O.contains j = true → b j = true := by
      intro j hj
      cases hb : b j with
      | true => rfl
      | false =>
        have : j ∈ O.filter fun j => !b j := List.mem_filter.2 ⟨List.contains_iff_mem.1 hj, by simp [hb]⟩
        rw [List.eq_nil_of_length_eq_zero hm] at this
        cases this
    refine ⟨?_, hend b a w hall hI⟩
    refine List.eq_nil_iff_forall_not_mem.2 (fun i hi => ?_)
    obtain ⟨_, h1, h2, _⟩ := mem_ready' hi
    rw [hall i h1] at h2
    cases h2
  | succ m ih =>
    intro b a w hm hc hI
    refine ⟨fun hr => ?_, fun i hi => ?_⟩
    · exfalso
      -- the smallest number that isn't listed is ready
      have hex : ∃ i, O.contains i = true ∧ b i = false := by
        cases hf : O.filter (fun j => !b j) with
        | nil => rw [hf] at hm; simp at hm
        | cons x r =>
          have hx : x ∈ O.filter (fun j => !b j) := by rw [hf]; exact List.mem_cons_self
          rw [List.mem_filter] at hx
          exact ⟨x, List.contains_iff_mem.2 hx.1, by simpa using hx.2⟩
      have hmin : ∀ k, (∃ i, i ≤ k ∧ O.contains i = true ∧ b i = false) → ∃ i, O.contains i = true ∧ b i = false ∧ ∀ j, j < i → O.contains j = true → b j = true := by
        intro k
        induction k with
        | zero =>
          rintro ⟨i, hi, h1, h2⟩
          exact ⟨i, h1, h2, fun j hj => by omega⟩
        | succ k ihk =>
          rintro ⟨i, hi, h1, h2⟩
          by_cases hlow : ∃ j, j ≤ k ∧ O.contains j = true ∧ b j = false
          · exact ihk hlow
          · refine ⟨i, h1, h2, fun j hj hO => ?_⟩
            cases hb : b j with
            | true => rfl
            | false => exact absurd ⟨j, by omega, hO, hb⟩ hlow
      obtain ⟨i0, h1, h2⟩ := hex
      obtain ⟨i, hO, hb, hlow⟩ := hmin i0 ⟨i0, Nat.le_refl _, h1, h2⟩
      have hl := baseOk_lt hk (List.contains_iff_mem.1 hO)
      have hin : i ∈ Region.ready md ops (lof (rtab md ops).2.length O b).toArray := by
        rw [ready_eq]
        unfold readyT
        rw [List.mem_filter, List.mem_range]
        refine ⟨hl, ?_⟩
        unfold readyAt
        rw [lof_get hl, hO, hb]
        have hr2 : (rtab md ops).2[i]? = some (rtab md ops).2[i] := List.getElem?_eq_getElem hl
        rw [hr2]
        simp only [if_true, Bool.not_false, Bool.true_and, List.all_eq_true]
        intro n hn
        have hni := (baseOk_row hk hr2).2 n hn
        rw [lof_get (by omega)]
        cases hOn : O.contains n with
        | true => simpa using hlow n hni hOn
        | false => simp
      rw [hr] at hin
      cases hin
    · obtain ⟨hl, hO, hb, hneed⟩ := mem_ready' hi
      have hon : ∀ j, (O.contains j && (B.getD i 0).testBit j) = true → b j = true := by
        intro j hj
        rw [Bool.and_eq_true] at hj
        have hr2 : (rtab md ops).2[i]? = some (rtab md ops).2[i] := List.getElem?_eq_getElem hl
        have h1 := List.all_eq_true.1 hw i (List.mem_range.2 hl)
        rw [hr2] at h1
        simp only [beq_iff_eq] at h1
        have h2 : (upM B i (rtab md ops).2[i].1).testBit j = true := by rw [← h1, Nat.testBit_or, hj.2, Bool.true_or]
        obtain ⟨n, hn, h3⟩ := upM_bit h2
        have hni := (baseOk_row hk hr2).2 n hn
        rcases h3 with rfl | ⟨h4, h5⟩
        · exact hneed _ hr2 n hn (by omega) hj.1
        · cases hO2 : O.contains n with
          | true => exact closed_bits hw hk hc n n (Nat.le_refl _) (by omega) hO2 (hneed _ hr2 n hn (by omega) hO2) j hj.1 h5
          | false =>
            have := bits_out hw hk n n (Nat.le_refl _) (by omega) hO2 j h5
            rw [hj.1] at this
            cases this
      have hoff : ∀ d, (O.contains d && (B.getD d 0).testBit i) = true → b d = false := by
        intro d hd
        rw [Bool.and_eq_true] at hd
        cases hbd : b d with
        | false => rfl
        | true =>
          have hdl := baseOk_lt hk (List.contains_iff_mem.1 hd.1)
          have := closed_bits hw hk hc d d (Nat.le_refl _) hdl hd.1 hbd i hO hd.2
          rw [hb] at this
          cases this
      obtain ⟨oi, hoi, hK⟩ := hs i (List.contains_iff_mem.1 hO) b a w hI hb hon hoff
      refine wpOp_step hoi (fun K' hK' => hK K' (fun a' w' hI' => hK' a' w' ⟨fun _ _ => trivial, ?_⟩))
      have hset : (lof (rtab md ops).2.length O b).toArray.setIfInBounds i true = (lof (rtab md ops).2.length O (up b i)).toArray := by
        apply Array.ext'
        rw [Array.toList_setIfInBounds]
        exact lof_up hO
      rw [hset]
      refine ih (up b i) a' w' ?_ ?_ hI'
      · have := up_count (baseOk_nodup hk) (List.contains_iff_mem.1 hO) hb
        omega
      · intro d r hr hOd hbd n hn hOn
        by_cases hni : n = i
        · rw [hni, up_self]
        · rw [up_ne hni]
          by_cases hdi : d = i
          · subst hdi
            exact hneed r hr n hn (by have := (baseOk_row hk hr).2 n hn; omega) hOn
          · rw [up_ne hdi] at hbd
            exact hc d r hr hOd hbd n hn hOn
theorem putSel_size (b : Nat → Bool) : ∀ (L : List (Nat × Tmp × Value)) (a : Act), (zQ a b L).tmps.size = a.tmps.size ∧ (zQ a b L).defers = a.defers
  | [], a => ⟨rfl, rfl⟩
  | e :: r, a => by
    unfold zQ
    by_cases h : b e.1 = true
    · rw [if_pos h]
      have := putSel_size b r (a.put (some e.2.1) e.2.2)
      exact ⟨this.1.trans (by simp [Act.put]), this.2.trans rfl⟩
    · rw [if_neg h]
      exact putSel_size b r a
theorem putSel_off {b : Nat → Bool} {t : Tmp} : ∀ {L : List (Nat × Tmp × Value)} {a : Act}, (L.all fun e => !(e.2.1 == t)) = true → (zQ a b L).tmps[t]? = a.tmps[t]?
  | [], _, _ => rfl
  | e :: r, a, h => by
    rw [List.all_cons, Bool.and_eq_true] at h
    have he : e.2.1 ≠ t := by simpa using h.1
    unfold zQ
    by_cases hb : b e.1 = true
    · rw [if_pos hb, putSel_off h.2]
      simp [Act.put, Array.getElem?_setIfInBounds_ne he]
    · rw [if_neg hb]
      exact putSel_off h.2
theorem putSel_on {b : Nat → Bool} {e : Nat × Tmp × Value} : ∀ {L : List (Nat × Tmp × Value)} {a : Act} (k : Nat), L[k]? = some e → ((L.drop (k + 1)).all fun x => !(x.2.1 == e.2.1)) = true → b e.1 = true → Nat.ble (e.2.1 + 1) a.tmps.size = true → (zQ a b L).tmps[e.2.1]? = some e.2.2
  | [], _, _, h, _, _, _ => by cases h
  | x :: r, a, 0, h, hd, hb, ht => by
    simp only [List.getElem?_cons_zero, Option.some.injEq] at h
    subst h
    unfold zQ
    rw [if_pos hb, putSel_off (by simpa using hd)]
    have ht2 : x.2.1 < a.tmps.size := Nat.le_of_ble_eq_true ht
    simp [Act.put, ht2]
  | x :: r, a, k + 1, h, hd, hb, ht => by
    unfold zQ
    refine putSel_on k (by simpa using h) (by simpa using hd) hb ?_
    by_cases hx : b x.1 = true
    · rw [if_pos hx]
      simpa [Act.put] using ht
    · rw [if_neg hx]
      exact ht
theorem put_comm {a : Act} {s t : Tmp} {u v : Value} (h : s ≠ t) : (a.put (some s) u).put (some t) v = (a.put (some t) v).put (some s) u := by
  simp only [Act.put]
  rw [Array.setIfInBounds_comm _ _ h]
theorem putSel_put {b : Nat → Bool} {t : Tmp} {v : Value} : ∀ {L : List (Nat × Tmp × Value)} {a : Act}, (L.all fun e => !(e.2.1 == t)) = true → (zQ a b L).put (some t) v = zQ (a.put (some t) v) b L
  | [], _, _ => rfl
  | e :: r, a, h => by
    rw [List.all_cons, Bool.and_eq_true] at h
    have he : e.2.1 ≠ t := by simpa using h.1
    unfold zQ
    by_cases hb : b e.1 = true
    · rw [if_pos hb, if_pos hb, putSel_put h.2, put_comm he]
    · rw [if_neg hb, if_neg hb]
      exact putSel_put h.2
theorem putSel_same {b : Nat → Bool} {i : Nat} : ∀ {L : List (Nat × Tmp × Value)} {a : Act}, (L.all fun e => !(e.1 == i)) = true → zQ a (up b i) L = zQ a b L
  | [], _, _ => rfl
  | e :: r, a, h => by
    rw [List.all_cons, Bool.and_eq_true] at h
    have he : e.1 ≠ i := by simpa using h.1
    unfold zQ
    rw [up_ne he]
    exact putSel_same h.2
theorem putSel_up {b : Nat → Bool} {i : Nat} {t : Tmp} {v0 v : Value} : ∀ {L1 L2 : List (Nat × Tmp × Value)} {a : Act}, b i = false → ((L1 ++ L2).all fun e => !(e.1 == i) && !(e.2.1 == t)) = true →
    (zQ a b (L1 ++ (i, t, v0) :: L2)).put (some t) v = zQ a (up b i) (L1 ++ (i, t, v) :: L2)
  | [], L2, a, hb, h => by
    simp only [List.nil_append] at h ⊢
    have h1 : (L2.all fun e => !(e.1 == i)) = true := List.all_eq_true.2 (fun e he => by have := List.all_eq_true.1 h e he; simp only [Bool.and_eq_true] at this; exact this.1)
    have h2 : (L2.all fun e => !(e.2.1 == t)) = true := List.all_eq_true.2 (fun e he => by have := List.all_eq_true.1 h e he; simp only [Bool.and_eq_true] at this; exact this.2)
    unfold zQ
    rw [if_neg (by rw [hb]; decide), if_pos (up_self b i), putSel_put h2, putSel_same h1]
  | e :: r, L2, a, hb, h => by
    simp only [List.cons_append, List.all_cons, Bool.and_eq_true] at h
    have he : e.1 ≠ i := by simpa using h.1.1
    simp only [List.cons_append]
    unfold zQ
    rw [up_ne he]
    exact putSel_up hb h.2
theorem putSel_upk {b : Nat → Bool} {i : Nat} {t : Tmp} {v0 v : Value} {a : Act} {L L' : List (Nat × Tmp × Value)} (k : Nat) (hb : b i = false) (hL : L[k]? = some (i, t, v0)) (hL' : L.set k (i, t, v) = L') (hd : ((L.take k ++ L.drop (k + 1)).all fun e => !(e.1 == i) && !(e.2.1 == t)) = true) :
    (zQ a b L).put (some t) v = zQ a (up b i) L' := by
  have hk := (List.getElem?_eq_some_iff.1 hL).1
  have h1 : L = L.take k ++ (i, t, v0) :: L.drop (k + 1) := by
    have h2 : L[k] = (i, t, v0) := (List.getElem?_eq_some_iff.1 hL).2
    rw [← h2, List.getElem_cons_drop, List.take_append_drop]
  have h3 : L' = L.take k ++ (i, t, v) :: L.drop (k + 1) := by rw [← hL', List.set_eq_take_append_cons_drop, if_pos hk]
  rw [h3]
  conv => lhs; rw [h1]
  exact putSel_up hb hd
theorem inv_ {l : Array Bool} {fuel : Nat} {a : Act} {w : World} (O : List Nat) (I : (Nat → Bool) → Act → World → Prop) (hT : rtab md ops = T) (hw : waitsOk T.2 B = true) (hk : baseOk T.2 O = true)
    (hl : (lof T.2.length O (fun _ => false) == l.toList && O.length == fuel) = true) (h0 : I (fun _ => false) a w) (hs : ∀ i ∈ O, StepAt P ops Q B O I i)
    (hend : ∀ b a w, (∀ j, O.contains j = true → b j = true) → I b a w → Q .normal a w) : wpAnyLast P md ops Q (fun _ => True) [] fuel l a w := by
  rw [Bool.and_eq_true, beq_iff_eq, beq_iff_eq] at hl
  have h1 := inv_all hT hw hk I hs hend fuel (fun _ => false) a w (by rw [← hl.2]; simp) (fun d r _ _ hb => by cases hb) h0
  have h2 : (lof T.2.length O (fun _ => false)).toArray = l := by apply Array.ext'; exact hl.1
  rw [h2] at h1
  exact h1
end
end Go.Proofs.YtlfplmlehbomlaaDoorW.PrintLast
end

section
namespace Go.Proofs.YtlfplmlehbomlaaDoor.P
set_option linter.unusedVariables false
set_option linter.unusedSimpArgs false
open Go.RowKit Go.ChangeShapes Go.WideShapes Go.Proofs.YtlfplmlehbomlaaDoorW.PrintWords Go.Proofs.YtlfplmlehbomlaaDoorW.PrintLast Go.Proofs.YtlfplmlehbomlaaDoorW.PrintMore
structure Ent where
  g : Nat
  born : Option Nat
  stored : Option Nat
  k : CK
  n : Nat
  f0 : Nat → SC
  f1 : Nat → SC
  t : TypeId
def Ent.ad (x : Ent) (G : Nat → Nat) : Nat := match x.born with
  | none => x.g
  | some i => G i
inductive SV where
  | val (v : Value)
  | new (i : Nat) (mk : Nat → Value)
def SV.sl (i n c : Nat) : SV := .new i fun g => .slice (some ⟨g, 0, none⟩) n c
def SV.at (G : Nat → Nat) : SV → Value
  | .val v => v
  | .new i mk => mk (G i)
def SV.of (i : Nat) : SV → Bool
  | .val _ => false
  | .new j _ => j == i
def vals (G : Nat → Nat) (L : List (Nat × Tmp × SV)) : List (Nat × Tmp × Value) := L.map fun e => (e.1, e.2.1, e.2.2.at G)
structure RowD where
  g : Nat
  k : CK
  n : Nat
  f : Nat → SC
  t : TypeId
def Held (wE w : World) (R : List RowD) : Prop := Below wE.heap.size wE w ∧ (∀ r ∈ R, wE.heap.size ≤ r.g ∧ Row w r.g r.k r.n r.f r.t) ∧ (R.map RowD.g).Nodup
def isOn (b : Nat → Bool) (d : Bool) : Option Nat → Bool
  | none => d
  | some i => b i
def Ent.f (x : Ent) (b : Nat → Bool) : Nat → SC := if isOn b false x.stored = true then x.f1 else x.f0
def RI (wE : World) (a0 : Act) (L : List (Nat × Tmp × SV)) (A : List Ent) (b : Nat → Bool) (a : Act) (w : World) : Prop :=
  ∃ G : Nat → Nat, a = zQ a0 b (vals G L) ∧ Below wE.heap.size wE w ∧ (∀ x ∈ A, isOn b true x.born = true → wE.heap.size ≤ x.ad G ∧ Row w (x.ad G) x.k x.n (x.f b) x.t) ∧
    A.Pairwise (fun x y => isOn b true x.born = true → isOn b true y.born = true → x.ad G ≠ y.ad G)
section
variable {P : Program} {ops : Array Oper} {Q : Exit → Act → World → Prop} {B O : List Nat} {wE : World} {a0 : Act} {L : List (Nat × Tmp × SV)} {A : List Ent} {i : Nat}
def Ons (B O : List Nat) (i : Nat) (b : Nat → Bool) : Prop := ∀ j, (O.contains j && (B.getD i 0).testBit j) = true → b j = true
def Offs (B O : List Nat) (i : Nat) (b : Nat → Bool) : Prop := ∀ d, (O.contains d && (B.getD d 0).testBit i) = true → b d = false
theorem isOn_up {b : Nat → Bool} {d : Bool} {i : Nat} {o : Option Nat} (h : (o == some i) = false) : isOn (up b i) d o = isOn b d o := by
  cases o with
  | none => rfl
  | some j =>
    have hj : j ≠ i := fun e => by subst e; simp at h
    exact up_ne hj
def LOk (L : List (Nat × Tmp × SV)) : Prop := (L.map fun e => e.1).Nodup ∧ (L.map fun e => e.2.1).Nodup
def nodB : List Nat → Bool
  | [] => true
  | a :: r => (r.all fun b => !Nat.beq a b) && nodB r
theorem nodB_is : ∀ {l : List Nat}, nodB l = true → l.Nodup
  | [], _ => List.nodup_nil
  | a :: r, h => by
    unfold nodB at h
    rw [Bool.and_eq_true] at h
    refine List.nodup_cons.2 ⟨fun hm => ?_, nodB_is h.2⟩
    have := List.all_eq_true.1 h.1 a hm
    rw [Nat.beq_refl] at this
    cases this
theorem lok (h1 : nodB (L.map fun e => e.1) = true) (h2 : nodB (L.map fun e => e.2.1) = true) : LOk L := ⟨nodB_is h1, nodB_is h2⟩
theorem vals_get {G : Nat → Nat} {k : Nat} {e : Nat × Tmp × SV} (h : L[k]? = some e) : (vals G L)[k]? = some (e.1, e.2.1, e.2.2.at G) := by
  unfold vals
  rw [List.getElem?_map, h]; rfl
theorem LOk.drop {d : Nat} {t : Tmp} {v : SV} {k : Nat} (h : LOk L) (hL : L[k]? = some (d, t, v)) (G : Nat → Nat) : (((vals G L).drop (k + 1)).all fun x => !(x.2.1 == t)) = true := by
  rw [List.all_eq_true]
  intro e he
  obtain ⟨m, hm⟩ := List.getElem?_of_mem he
  rw [List.getElem?_drop] at hm
  unfold vals at hm
  rw [List.getElem?_map] at hm
  cases h2 : L[k + 1 + m]? with
  | none => rw [h2] at hm; cases hm
  | some e2 =>
    rw [h2] at hm
    obtain rfl := Option.some.inj hm
    have h3 := h.2
    rw [List.nodup_iff_pairwise_ne, List.pairwise_iff_getElem] at h3
    obtain ⟨hk, hke⟩ := List.getElem?_eq_some_iff.1 hL
    obtain ⟨hl, hle⟩ := List.getElem?_eq_some_iff.1 h2
    have := h3 k (k + 1 + m) (by simpa using hk) (by simpa using hl) (by omega)
    simp only [List.getElem_map, hke, hle] at this
    simpa using fun e => this e.symm
theorem LOk.rest {N : Tmp} {v : SV} {k : Nat} (h : LOk L) (hL : L[k]? = some (i, N, v)) (G : Nat → Nat) : (((vals G L).take k ++ (vals G L).drop (k + 1)).all fun e => !(e.1 == i) && !(e.2.1 == N)) = true := by
  rw [List.all_eq_true]
  intro e he
  obtain ⟨hk, hke⟩ := List.getElem?_eq_some_iff.1 hL
  have key : ∃ j, j ≠ k ∧ (vals G L)[j]? = some e := by
    rw [List.mem_append] at he
    rcases he with he | he
    · obtain ⟨m, hm⟩ := List.getElem?_of_mem he
      have hlt : m < k := by
        apply Decidable.byContradiction
        intro hn
        rw [List.getElem?_eq_none (by simp; omega)] at hm; cases hm
      exact ⟨m, by omega, by rw [List.getElem?_take_of_lt hlt] at hm; exact hm⟩
    · obtain ⟨m, hm⟩ := List.getElem?_of_mem he
      rw [List.getElem?_drop] at hm
      exact ⟨k + 1 + m, by omega, hm⟩
  obtain ⟨j, hj, hje⟩ := key
  unfold vals at hje
  rw [List.getElem?_map] at hje
  cases h2 : L[j]? with
  | none => rw [h2] at hje; cases hje
  | some e2 =>
    rw [h2] at hje
    obtain rfl := Option.some.inj hje
    obtain ⟨hl, hle⟩ := List.getElem?_eq_some_iff.1 h2
    have h3 := h.1
    have h4 := h.2
    rw [List.nodup_iff_pairwise_ne, List.pairwise_iff_getElem] at h3 h4
    have a1 : e2.1 ≠ i := by
      rcases Nat.lt_or_ge j k with hlt | hge
      · have := h3 j k (by simpa using hl) (by simpa using hk) hlt
        simpa only [List.getElem_map, hke, hle] using this
      · have := h3 k j (by simpa using hk) (by simpa using hl) (by omega)
        simp only [List.getElem_map, hke, hle] at this
        exact fun e => this e.symm
    have a2 : e2.2.1 ≠ N := by
      rcases Nat.lt_or_ge j k with hlt | hge
      · have := h4 j k (by simpa using hl) (by simpa using hk) hlt
        simpa only [List.getElem_map, hke, hle] using this
      · have := h4 k j (by simpa using hk) (by simpa using hl) (by omega)
        simp only [List.getElem_map, hke, hle] at this
        exact fun e => this e.symm
    simp [a1, a2]
theorem vals_setG {G : Nat → Nat} {N : Tmp} {k g : Nat} {mk : Nat → Value} (h : ((L.take k ++ L.drop (k + 1)).all fun e => !e.2.2.of i) = true) (hL : L[k]? = some (i, N, .new i mk)) : vals (fun j => if j = i then g else G j) L = (vals G L).set k (i, N, mk g) := by
  obtain ⟨hk, hke⟩ := List.getElem?_eq_some_iff.1 hL
  apply List.ext_getElem?
  intro j
  by_cases hj : j = k
  · subst hj
    rw [List.getElem?_set_self (by unfold vals; simpa using hk), vals_get hL]
    simp [SV.at]
  · rw [List.getElem?_set_ne (Ne.symm hj)]
    unfold vals
    rw [List.getElem?_map, List.getElem?_map]
    cases h2 : L[j]? with
    | none => rfl
    | some e =>
      have hm : e ∈ L.take k ++ L.drop (k + 1) := by
        rw [List.mem_append]
        by_cases hlt : j < k
        · left; exact List.mem_of_getElem? (i := j) (by rw [List.getElem?_take_of_lt hlt]; exact h2)
        · right; exact List.mem_of_getElem? (i := j - (k + 1)) (by rw [List.getElem?_drop]; rw [show k + 1 + (j - (k + 1)) = j by omega]; exact h2)
      have h3 := List.all_eq_true.1 h e hm
      obtain ⟨e1, e2, e3⟩ := e
      cases e3 with
      | val v => rfl
      | new p off =>
        simp only [SV.of, Bool.not_eq_true', beq_eq_false_iff_ne] at h3
        simp [SV.at, h3]
theorem zB {b : Nat → Bool} {G : Nat → Nat} {d : Nat} {t : Tmp} {v : SV} (hLo : LOk L) (k : Nat) (hL : L[k]? = some (d, t, v)) {sz : Nat} (hsz : a0.tmps.size = sz) (hs : Nat.ble (t + 1) sz = true) (hb : b d = true) : (zQ a0 b (vals G L)).eval (.tmp t) = v.at G := by
  subst hsz
  have h := putSel_on (a := a0) (b := b) (e := (d, t, v.at G)) k (vals_get hL) (hLo.drop hL G) hb hs
  show (zQ a0 b (vals G L)).tmps.getD t undef = v.at G
  rw [Array.getD_eq_getD_getElem?, h]
  rfl
theorem zG {b : Nat → Bool} {G : Nat → Nat} {t : Tmp} {v : Value} (h : (L.all fun e => !(e.2.1 == t)) = true) (hv : a0.eval (.tmp t) = v) : (zQ a0 b (vals G L)).eval (.tmp t) = v := by
  show (zQ a0 b (vals G L)).tmps.getD t undef = v
  rw [Array.getD_eq_getD_getElem?, putSel_off (by unfold vals; rw [List.all_map]; exact h), ← Array.getD_eq_getD_getElem?]
  exact hv
theorem putSel_pre {b : Nat → Bool} {t : Tmp} : ∀ {M : List (Nat × Tmp × Value)} {a : Act}, (∀ e ∈ M, e.2.1 = t → b e.1 = false) → (zQ a b M).tmps[t]? = a.tmps[t]?
  | [], _, _ => rfl
  | e :: r, a, h => by
    unfold zQ
    by_cases hb : b e.1 = true
    · have he : e.2.1 ≠ t := fun h2 => by have := h e List.mem_cons_self h2; rw [hb] at this; cases this
      rw [if_pos hb, putSel_pre (fun x hx => h x (List.mem_cons_of_mem _ hx))]
      simp [Act.put, Array.getElem?_setIfInBounds_ne he]
    · rw [if_neg hb]
      exact putSel_pre (fun x hx => h x (List.mem_cons_of_mem _ hx))
theorem ev_pre {b : Nat → Bool} {G : Nat → Nat} {d : Nat} {t : Tmp} {sv : SV} {v : Value} (hLo : LOk L) (k : Nat) (hL : L[k]? = some (d, t, sv)) (hb : b d = false) (hv : a0.eval (.tmp t) = v) : (zQ a0 b (vals G L)).eval (.tmp t) = v := by
  show (zQ a0 b (vals G L)).tmps.getD t undef = v
  rw [Array.getD_eq_getD_getElem?, putSel_pre (fun e he h2 => ?_), ← Array.getD_eq_getD_getElem?]
  · exact hv
  · unfold vals at he
    obtain ⟨e2, he2, rfl⟩ := List.mem_map.1 he
    obtain ⟨j, hj⟩ := List.getElem?_of_mem he2
    obtain ⟨hk, hke⟩ := List.getElem?_eq_some_iff.1 hL
    obtain ⟨hl, hle⟩ := List.getElem?_eq_some_iff.1 hj
    have h4 := hLo.2
    rw [List.nodup_iff_pairwise_ne, List.pairwise_iff_getElem] at h4
    have : j = k := by
      apply Decidable.byContradiction
      intro hne
      rcases Nat.lt_or_ge j k with hlt | hge
      · have := h4 j k (by simpa using hl) (by simpa using hk) hlt
        simp only [List.getElem_map, hke, hle] at this
        exact this h2
      · have := h4 k j (by simpa using hk) (by simpa using hl) (by omega)
        simp only [List.getElem_map, hke, hle] at this
        exact this h2.symm
    subst this
    rw [hL] at hj
    obtain rfl := Option.some.inj hj
    exact hb
theorem st_keep {N : Tmp} {oi : Oper} (k : Nat) (v : SV) (hoi : ops[i]? = some oi) (hN : oi.dst = some N) (hLo : LOk L) (hL : L[k]? = some (i, N, v))
    (hA : (A.all fun x => !(x.born == some i) && !(x.stored == some i)) = true)
    (hgo : ∀ b G w (K : Act → World → Prop), Below wE.heap.size wE w → Ons B O i b → Offs B O i b → (∀ x ∈ A, isOn b true x.born = true → wE.heap.size ≤ x.ad G ∧ Row w (x.ad G) x.k x.n (x.f b) x.t) →
      (∀ w', Below w.heap.size w w' → K ((zQ a0 b (vals G L)).put oi.dst (v.at G)) w') →
      if Region.wanted oi (yielded ops (zQ a0 b (vals G L)).tmps) = true then Oper.wp P oi (zQ a0 b (vals G L)) w K Q else K ((zQ a0 b (vals G L)).put oi.dst undef) w) :
    StepAt P ops Q B O (RI wE a0 L A) i := by
  rintro b a w ⟨G, rfl, hB, hR, hD⟩ hb hon hoff
  refine ⟨oi, hoi, fun K hK => hgo b G w K hB hon hoff hR (fun w' hw' => hK _ _ ⟨G, ?_, hB.trans (hw'.mono hB.size), fun x hx hbx => ?_, ?_⟩)⟩
  · rw [hN]
    exact putSel_upk k hb (vals_get hL) (by have h := vals_get (G := G) hL; obtain ⟨h1, h2⟩ := List.getElem?_eq_some_iff.1 h; rw [← h2]; exact List.set_getElem_self h1) (hLo.rest hL G)
  · have hx2 := List.all_eq_true.1 hA x hx
    simp only [Bool.and_eq_true, Bool.not_eq_true'] at hx2
    rw [isOn_up hx2.1] at hbx
    have h := hR x hx hbx
    have e : x.f (up b i) = x.f b := by unfold Ent.f; rw [isOn_up hx2.2]
    rw [e]
    exact ⟨h.1, h.2.below hw' h.2.lt⟩
  · refine hD.imp_of_mem (fun {x y} hx hy h h1 h2 => ?_)
    have hx2 := List.all_eq_true.1 hA x hx
    have hy2 := List.all_eq_true.1 hA y hy
    simp only [Bool.and_eq_true, Bool.not_eq_true'] at hx2 hy2
    rw [isOn_up hx2.1] at h1
    rw [isOn_up hy2.1] at h2
    exact h h1 h2
theorem zC {N : Tmp} {oi : Oper} (k : Nat) (v : SV) (hoi : ops[i]? = some oi) (hN : oi.dst = some N) (hLo : LOk L) (hL : L[k]? = some (i, N, v))
    (hA : (A.all fun x => !(x.born == some i) && !(x.stored == some i)) = true)
    (hw : ∀ b G, Ons B O i b → Offs B O i b → Region.wanted oi (yielded ops (zQ a0 b (vals G L)).tmps) = true) (hrun : ∀ b G w, Ons B O i b → Offs B O i b → (execOp (zQ a0 b (vals G L)).eval oi).run P w = .ok (.value (v.at G)) w) : StepAt P ops Q B O (RI wE a0 L A) i :=
  st_keep k v hoi hN hLo hL hA (fun b G w K hB hon hoff hR hK => event_step (hw b G hon hoff) (hrun b G w hon hoff) (hK _ (Below.refl _ _)))
def onB (B O : List Nat) (i : Nat) : Option Nat → Bool
  | none => true
  | some j => O.contains j && (B.getD i 0).testBit j
def offB (B O : List Nat) (i : Nat) : Option Nat → Bool
  | none => true
  | some s => O.contains s && (B.getD s 0).testBit i
theorem onB_is {b : Nat → Bool} {o : Option Nat} (h : onB B O i o = true) (hon : Ons B O i b) : isOn b true o = true := by
  cases o with
  | none => rfl
  | some j => exact hon j h
theorem offB_is {b : Nat → Bool} {o : Option Nat} (h : offB B O i o = true) (hoff : Offs B O i b) : isOn b false o = false := by
  cases o with
  | none => rfl
  | some j => exact hoff j h
theorem add_at (g off j : Nat) : (⟨g, off, none⟩ : Addr).add j = ⟨g, off + j, none⟩ := by
  unfold Addr.add
  split
  · subst j; rfl
  · rfl
theorem exec_load_at {o : Oper} {ev : Operand → Value} {w : World} {k : CK} {n : Nat} {f : Nat → SC} {ty : TypeId} {x : Operand} {ad : Addr} {d : TypeDesc}
    (hr : ∀ j, j < n → w.cell? (ad.add j) = some (mkc k (f j))) (hu : P.underlying ty = some d) (hi : (P.info? ty).map (·.size) = some n) (hd : (match d with | .struct _ | .array _ _ => true | _ => false) = true) (ho : o.op = .load ty x) (hx : ev x = .pointer (some ad)) :
    (execOp ev o).run P w = .ok (.value (.agg (FR k n f))) w := by
  obtain ⟨ie, hie, hs⟩ : ∃ ie, P.info? ty = some ie ∧ ie.size = n := by
    cases he : P.info? ty with
    | none => rw [he] at hi; cases hi
    | some ie => rw [he] at hi; exact ⟨ie, rfl, Option.some.inj hi⟩
  have hti : (typeInfo ty).run P w = .ok ie w := by simp [typeInfo, hie]
  have ha : (isAgg ty).run P w = .ok true w := by
    simp only [isAgg, Sem.run_bind, run_underlying hu, Result.andThen_ok]
    cases d <;> simp_all
  have hl : (loadCells ad n).run P w = .ok (FR k n f) w := by
    have := run_loadCells_list (P := P) w ad (FR k n f).toList (fun j v hv => by
      rw [Array.getElem?_toList] at hv
      by_cases hj : j < n
      · rw [FR_at _ _ _ _ hj] at hv; rw [hr j hj]; exact hv
      · rw [FR_out _ _ _ _ hj] at hv; cases hv)
    rw [Array.length_toList, FR_size] at this
    simpa using this
  unfold execOp
  simp only [ho, hx, Instr.loadAt, Instr.sureAddr, Sem.run_bind, Sem.run_pure, Result.andThen_ok, loadVar, ha, sizeOf, hti, hs, hl, if_true]
theorem ad_setG {x : Ent} {G : Nat → Nat} {g : Nat} (h : (x.born == some i) = false) : x.ad (fun j => if j = i then g else G j) = x.ad G := by
  unfold Ent.ad
  cases hb : x.born with
  | none => rfl
  | some j =>
    rw [hb] at h
    have : j ≠ i := fun e => by subst e; simp at h
    simp [this]
theorem st_load0 {N : Tmp} {oi : Oper} (k : Nat) (r : Nat) (x : Ent) (off m : Nat) {ty : TypeId} {p : Operand} {d : TypeDesc} (hx : A[r]? = some x) (hoi : ops[i]? = some oi) (hN : oi.dst = some N) (ho : oi.op = .load ty p) (hw : ∀ b G, Ons B O i b → Offs B O i b → Region.wanted oi (yielded ops (zQ a0 b (vals G L)).tmps) = true)
    (hLo : LOk L) (hL : L[k]? = some (i, N, .val (.agg (FR x.k m fun j => x.f0 (off + j))))) (hA : (A.all fun x => !(x.born == some i) && !(x.stored == some i)) = true)
    (hbo : onB B O i x.born = true) (hst : offB B O i x.stored = true) (hm : off + m ≤ x.n) (hu : P.underlying ty = some d) (hi : (P.info? ty).map (·.size) = some m) (hdd : (match d with | .struct _ | .array _ _ => true | _ => false) = true)
    (hp : ∀ b G, Ons B O i b → Offs B O i b → (zQ a0 b (vals G L)).eval p = .pointer (some ⟨x.ad G, off, none⟩)) : StepAt P ops Q B O (RI wE a0 L A) i :=
  st_keep k (.val (.agg (FR x.k m fun j => x.f0 (off + j)))) hoi hN hLo hL hA (fun b G w K hB hon hoff hR hK => by
    have h := (hR x (List.mem_of_getElem? hx) (onB_is hbo hon)).2
    have e : x.f b = x.f0 := by unfold Ent.f; rw [offB_is hst hoff]; rfl
    rw [e] at h
    exact event_step (hw b G hon hoff) (exec_load_at (k := x.k) (n := m) (ad := ⟨x.ad G, off, none⟩) (f := fun j => x.f0 (off + j)) (fun j hj => by rw [add_at]; exact h.cell (off + j) (by omega)) hu hi hdd ho (hp b G hon hoff)) (hK _ (Below.refl _ _)))
theorem st_call {N : Tmp} {oi : Oper} (k : Nat) (v : Value) {f : FuncId} {fn : Func} {asx : Array Operand} {ts : Array TypeId} (args : Array Value) (hoi : ops[i]? = some oi) (hN : oi.dst = some N) (hop : oi.op = .call { callee := .value (.func f), args := asx, argTypes := ts }) (hw : ∀ b G, Ons B O i b → Offs B O i b → Region.wanted oi (yielded ops (zQ a0 b (vals G L)).tmps) = true)
    (hLo : LOk L) (hL : L[k]? = some (i, N, .val v)) (hA : (A.all fun x => !(x.born == some i) && !(x.stored == some i)) = true)
    (hf : P.funcs[f]? = some fn) (hname : (fn.name == "runtime.NumGoroutine") = false) (hbd : fn.body.isSome = true) (hargs : ∀ b G, Ons B O i b → Offs B O i b → asx.map (zQ a0 b (vals G L)).eval = args)
    (hc : ∀ w, Below wE.heap.size wE w → Calls P f args w fun e w' => e = .returned v ∧ Below w.heap.size w w') : StepAt P ops Q B O (RI wE a0 L A) i :=
  st_keep k (.val v) hoi hN hLo hL hA (fun b G w K hB hon hoff hR hK => goes_ hf hname hbd args (hw b G hon hoff) rfl hop (hargs b G hon hoff) ((hc w hB).mono (by
    rintro e w' ⟨rfl, hb⟩
    exact ⟨_, rfl, hK _ hb⟩)))
def setG (G : Nat → Nat) (i g : Nat) : Nat → Nat := fun j => if j = i then g else G j
theorem st_alloc {N : Tmp} {oi : Oper} {mk : Nat → Value} (k r : Nat) (kk : CK) (n : Nat) (t : TypeId) (st : Option Nat) (f0 f1 : Nat → SC) (hoi : ops[i]? = some oi) (hN : oi.dst = some N) (hw : ∀ b G, Ons B O i b → Offs B O i b → Region.wanted oi (yielded ops (zQ a0 b (vals G L)).tmps) = true)
    (hx : A[r]? = some ⟨0, some i, st, kk, n, f0, f1, t⟩) (hLo : LOk L) (hL : L[k]? = some (i, N, .new i mk)) (hL' : ((L.take k ++ L.drop (k + 1)).all fun e => !e.2.2.of i) = true)
    (hA : ((A.take r ++ A.drop (r + 1)).all fun x => !(x.born == some i)) = true) (hAs : (A.all fun x => !(x.stored == some i)) = true)
    (hst : offB B O i st = true) (hrun : ∀ b G w, Ons B O i b → Offs B O i b → (execOp (zQ a0 b (vals G L)).eval oi).run P w = .ok (.value (mk w.heap.size)) (w.alloc (.cells (FR kk n f0) t))) :
    StepAt P ops Q B O (RI wE a0 L A) i := by
  rintro b a w ⟨G, rfl, hB, hR, hD⟩ hb hon hoff
  refine ⟨oi, hoi, fun K hK => event_step (hw b G hon hoff) (hrun b G w hon hoff) (hK _ _ ⟨setG G i w.heap.size, ?_, hB.alloc hB.size _, fun x hx' hbx => ?_, ?_⟩)⟩
  · rw [hN]
    exact putSel_upk k hb (vals_get hL) (vals_setG hL' hL).symm (hLo.rest hL G)
  · obtain ⟨j, hj⟩ := List.getElem?_of_mem hx'
    have hxs := List.all_eq_true.1 hAs x hx'
    rw [Bool.not_eq_true'] at hxs
    have e : x.f (up b i) = x.f b := by unfold Ent.f; rw [isOn_up hxs]
    rw [e]
    by_cases hjr : j = r
    · subst hjr
      rw [hx] at hj
      obtain rfl := Option.some.inj hj
      have e2 : (setG G i w.heap.size) i = w.heap.size := if_pos rfl
      have e3 : (⟨0, some i, st, kk, n, f0, f1, t⟩ : Ent).f b = f0 := by unfold Ent.f; rw [offB_is hst hoff]; rfl
      rw [e3]
      show wE.heap.size ≤ setG G i w.heap.size i ∧ Row _ (setG G i w.heap.size i) kk n _ t
      rw [e2]
      exact ⟨hB.size, Row.new _ _ _ _ _⟩
    · have hbx2 : (x.born == some i) = false ∧ isOn b true x.born = true := by
        have hm : x ∈ A.take r ++ A.drop (r + 1) := by
          rw [List.mem_append]
          by_cases hlt : j < r
          · left; exact List.mem_of_getElem? (i := j) (by rw [List.getElem?_take_of_lt hlt]; exact hj)
          · right; exact List.mem_of_getElem? (i := j - (r + 1)) (by rw [List.getElem?_drop]; rw [show r + 1 + (j - (r + 1)) = j by omega]; exact hj)
        have h2 := List.all_eq_true.1 hA x hm
        rw [Bool.not_eq_true'] at h2
        rw [isOn_up h2] at hbx
        exact ⟨h2, hbx⟩
      have h := hR x hx' hbx2.2
      rw [show x.ad (setG G i w.heap.size) = x.ad G from ad_setG hbx2.1]
      exact ⟨h.1, h.2.alloc _⟩
  · -- distinct
    rw [List.pairwise_iff_getElem] at hD ⊢
    intro j1 j2 h1 h2 hlt hb1 hb2
    have key : ∀ (j : Nat) (hj : j < A.length), j ≠ r → isOn (up b i) true (A[j]).born = true → isOn b true (A[j]).born = true ∧ (A[j]).ad (setG G i w.heap.size) = (A[j]).ad G ∧ (A[j]).ad G < w.heap.size := by
      intro j hj hjr hbj
      have hm : A[j] ∈ A.take r ++ A.drop (r + 1) := by
        rw [List.mem_append]
        by_cases hlt : j < r
        · left; exact List.mem_of_getElem? (i := j) (by rw [List.getElem?_take_of_lt hlt]; exact List.getElem?_eq_getElem hj)
        · right; exact List.mem_of_getElem? (i := j - (r + 1)) (by rw [List.getElem?_drop]; rw [show r + 1 + (j - (r + 1)) = j by omega]; exact List.getElem?_eq_getElem hj)
      have h2 := List.all_eq_true.1 hA _ hm
      rw [Bool.not_eq_true'] at h2
      rw [isOn_up h2] at hbj
      exact ⟨hbj, ad_setG h2, (hR _ (List.getElem_mem hj) hbj).2.lt⟩
    have hr := (List.getElem?_eq_some_iff.1 hx)
    obtain ⟨hrl, hre⟩ := hr
    have hself : (A[r]).ad (setG G i w.heap.size) = w.heap.size := by rw [hre]; exact if_pos rfl
    by_cases e1 : j1 = r
    · have hk2 := key j2 h2 (by omega) hb2
      subst e1
      rw [hself, hk2.2.1]; omega
    · have hk1 := key j1 h1 e1 hb1
      by_cases e2 : j2 = r
      · subst e2
        rw [hself, hk1.2.1]; omega
      · have hk2 := key j2 h2 e2 hb2
        rw [hk1.2.1, hk2.2.1]
        exact hD j1 j2 h1 h2 hlt hk1.1 hk2.1
theorem st_store {oi : Oper} (r : Nat) (x : Ent) {ty : TypeId} {p y : Operand} (hx : A[r]? = some x) (hxs : x.stored = some i) (hoi : ops[i]? = some oi) (hN : oi.dst = none) (ho : oi.op = .store ty p y) (hw : ∀ b G, Ons B O i b → Offs B O i b → Region.wanted oi (yielded ops (zQ a0 b (vals G L)).tmps) = true)
    (hL : (L.all fun e => !(e.1 == i)) = true) (hA : (A.all fun x => !(x.born == some i)) = true) (hAs : ((A.take r ++ A.drop (r + 1)).all fun x => !(x.stored == some i)) = true) (hbo : onB B O i x.born = true) (hi : (P.info? ty).map (·.size) = some x.n)
    (hp : ∀ b G, Ons B O i b → Offs B O i b → (zQ a0 b (vals G L)).eval p = .pointer (some ⟨x.ad G, 0, none⟩)) (hy : ∀ b G, Ons B O i b → Offs B O i b → (zQ a0 b (vals G L)).eval y = .agg (FR x.k x.n x.f1)) : StepAt P ops Q B O (RI wE a0 L A) i := by
  rintro b a w ⟨G, rfl, hB, hR, hD⟩ hb hon hoff
  have hxm := List.mem_of_getElem? hx
  have h0 := hR x hxm (onB_is hbo hon)
  refine ⟨oi, hoi, fun K hK => ?_⟩
  rw [hN]
  refine oper_storeG x.f1 h0.2 hi (hw b G hon hoff) hN ho (hp b G hon hoff) (hy b G hon hoff) (fun w' hs hr => hK _ _ ⟨G, (putSel_same (by unfold vals; rw [List.all_map]; exact hL)).symm, hs.bel _ _ h0.1 hB, fun z hz hbz => ?_, ?_⟩)
  · have hzb := List.all_eq_true.1 hA z hz
    rw [Bool.not_eq_true'] at hzb
    rw [isOn_up hzb] at hbz
    obtain ⟨j, hj⟩ := List.getElem?_of_mem hz
    by_cases hjr : j = r
    · subst hjr
      rw [hx] at hj
      obtain rfl := Option.some.inj hj
      have e : x.f (up b i) = x.f1 := by unfold Ent.f; rw [hxs]; exact if_pos (up_self b i)
      rw [e]
      exact ⟨h0.1, hr⟩
    · have hm : z ∈ A.take r ++ A.drop (r + 1) := by
        rw [List.mem_append]
        by_cases hlt : j < r
        · left; exact List.mem_of_getElem? (i := j) (by rw [List.getElem?_take_of_lt hlt]; exact hj)
        · right; exact List.mem_of_getElem? (i := j - (r + 1)) (by rw [List.getElem?_drop]; rw [show r + 1 + (j - (r + 1)) = j by omega]; exact hj)
      have h2 := List.all_eq_true.1 hAs z hm
      rw [Bool.not_eq_true'] at h2
      have e : z.f (up b i) = z.f b := by unfold Ent.f; rw [isOn_up h2]
      rw [e]
      have hz0 := hR z hz hbz
      refine ⟨hz0.1, hz0.2.stored hs ?_⟩
      rw [List.pairwise_iff_getElem] at hD
      obtain ⟨hjl, hje⟩ := List.getElem?_eq_some_iff.1 hj
      obtain ⟨hrl, hre⟩ := List.getElem?_eq_some_iff.1 hx
      by_cases hlt : j < r
      · have := hD j r hjl hrl hlt (by rw [hje]; exact hbz) (by rw [hre]; exact onB_is hbo hon)
        rwa [hje, hre] at this
      · have := hD r j hrl hjl (by omega) (by rw [hre]; exact onB_is hbo hon) (by rw [hje]; exact hbz)
        rw [hje, hre] at this
        exact fun e => this e.symm
  · refine hD.imp_of_mem (fun {z y} hz hy h h1 h2 => ?_)
    have hz2 := List.all_eq_true.1 hA z hz
    have hy2 := List.all_eq_true.1 hA y hy
    rw [Bool.not_eq_true'] at hz2 hy2
    rw [isOn_up hz2] at h1
    rw [isOn_up hy2] at h2
    exact h h1 h2
noncomputable def Ent.row (x : Ent) (G : Nat → Nat) : RowD := ⟨@Option.rec Nat (fun _ => Nat) x.g (fun i => G i) x.born, x.k, x.n, @Option.rec Nat (fun _ => Nat → SC) x.f0 (fun _ => x.f1) x.stored, x.t⟩
theorem Ent.row_g (x : Ent) (G : Nat → Nat) : (x.row G).g = x.ad G := by cases x with | mk g born stored k n f0 f1 t => cases born <;> rfl
theorem Ent.row_f (x : Ent) (G : Nat → Nat) : (x.row G).f = if x.stored.isSome then x.f1 else x.f0 := by cases x with | mk g born stored k n f0 f1 t => cases stored <;> rfl
def Ent.row0 (x : Ent) : RowD := ⟨x.g, x.k, x.n, x.f0, x.t⟩
theorem putSel_nil {b : Nat → Bool} : ∀ {M : List (Nat × Tmp × Value)} {a : Act}, (∀ e, b e = false) → zQ a b M = a
  | [], _, _ => rfl
  | e :: r, a, h => by
    unfold zQ
    rw [if_neg (by rw [h]; decide)]
    exact putSel_nil h
theorem RI.start {w : World} {R : List RowD} (hH : Held wE w R) (hR : (A.filter fun x => x.born == none).map Ent.row0 = R) : RI wE a0 L A (fun _ => false) a0 w := by
  obtain ⟨h1, h2, h3⟩ := hH
  subst hR
  refine ⟨fun _ => 0, (putSel_nil (fun _ => rfl)).symm, h1, fun x hx hbx => ?_, ?_⟩
  · have hb0 : x.born = none := by
      cases h : x.born with
      | none => rfl
      | some j => rw [h] at hbx; cases hbx
    have hm : x.row0 ∈ (A.filter fun x => x.born == none).map Ent.row0 := List.mem_map.2 ⟨x, List.mem_filter.2 ⟨hx, by rw [hb0]; rfl⟩, rfl⟩
    have h := h2 _ hm
    have e : x.f (fun _ => false) = x.f0 := by unfold Ent.f; cases x.stored <;> rfl
    rw [e]
    have e2 : x.ad (fun _ => 0) = x.g := by unfold Ent.ad; rw [hb0]
    rw [e2]
    exact h
  · rw [List.map_map] at h3
    have h4 := (List.nodup_iff_pairwise_ne.1 h3)
    rw [List.pairwise_map, List.pairwise_filter] at h4
    refine h4.imp (fun {x y} h h1 h2 => ?_)
    have hx0 : x.born = none := by
      cases hh : x.born with
      | none => rfl
      | some j => rw [hh] at h1; cases h1
    have hy0 : y.born = none := by
      cases hh : y.born with
      | none => rfl
      | some j => rw [hh] at h2; cases h2
    have e1 : x.ad (fun _ => 0) = x.g := by unfold Ent.ad; rw [hx0]
    have e2 : y.ad (fun _ => 0) = y.g := by unfold Ent.ad; rw [hy0]
    rw [e1, e2]
    exact h (by rw [hx0]; rfl) (by rw [hy0]; rfl)
def Sl (a : Act) (sz : Nat) (S : List (Tmp × Value)) : Prop := a.tmps.size = sz ∧ a.defers = [] ∧ ∀ e ∈ S, a.eval (.tmp e.1) = e.2
theorem Sl.get {a : Act} {sz : Nat} {S : List (Tmp × Value)} (h : Sl a sz S) {t : Tmp} {v : Value} (k : Nat) (hk : S[k]? = some (t, v)) : a.eval (.tmp t) = v := h.2.2 _ (List.mem_of_getElem? hk)
def SlOk (L : List (Nat × Tmp × SV)) (S : List (Tmp × Value)) : List (Tmp × SV) → Prop
  | [] => True
  | e :: r => ((∃ d ∈ L, d.2 = (e.1, e.2)) ∨ ((L.all fun d => !(d.2.1 == e.1)) = true ∧ ∃ v, e.2 = .val v ∧ (e.1, v) ∈ S)) ∧ SlOk L S r
theorem slL {S : List (Tmp × Value)} {e : Tmp × SV} {r : List (Tmp × SV)} (k : Nat) {d : Nat} (h : L[k]? = some (d, e.1, e.2)) (hr : SlOk L S r) : SlOk L S (e :: r) := ⟨.inl ⟨_, List.mem_of_getElem? h, rfl⟩, hr⟩
theorem slS {S : List (Tmp × Value)} {t : Tmp} {v : Value} {r : List (Tmp × SV)} (k : Nat) (h : S[k]? = some (t, v)) (ho : (L.all fun d => !(d.2.1 == t)) = true) (hr : SlOk L S r) : SlOk L S ((t, .val v) :: r) := ⟨.inr ⟨ho, v, rfl, List.mem_of_getElem? h⟩, hr⟩
theorem SlOk.mem {S : List (Tmp × Value)} : ∀ {M : List (Tmp × SV)}, SlOk L S M → ∀ e ∈ M, (∃ d ∈ L, d.2 = (e.1, e.2)) ∨ ((L.all fun d => !(d.2.1 == e.1)) = true ∧ ∃ v, e.2 = .val v ∧ (e.1, v) ∈ S)
  | [], _, e, he => by cases he
  | x :: r, h, e, he => by
    rcases List.mem_cons.1 he with rfl | he
    · exact h.1
    · exact h.2.mem e he
theorem RI.fin {b : Nat → Bool} {a : Act} {w : World} {sz : Nat} {S : List (Tmp × Value)} {S' : List (Tmp × SV)} (h : RI wE a0 L A b a w) (hO : ∀ j, O.contains j = true → b j = true) (hA : (A.all fun x => (match x.born with | none => true | some j => O.contains j) && (match x.stored with | none => true | some j => O.contains j)) = true)
    (hLo : LOk L) (hL : (L.all fun e => O.contains e.1 && Nat.ble (e.2.1 + 1) sz) = true) (hS : Sl a0 sz S) (hS' : SlOk L S S') : ∃ G, Sl a sz (S'.map fun e => (e.1, e.2.at G)) ∧ Held wE w (A.map fun x => x.row G) := by
  obtain ⟨G, rfl, hB, hR, hD⟩ := h
  have hbo : ∀ x ∈ A, isOn b true x.born = true := fun x hx => by
    have := List.all_eq_true.1 hA x hx
    rw [Bool.and_eq_true] at this
    cases hh : x.born with
    | none => rfl
    | some j => rw [hh] at this; exact hO j this.1
  have hf : ∀ x ∈ A, x.f b = if x.stored.isSome then x.f1 else x.f0 := fun x hx => by
    have := List.all_eq_true.1 hA x hx
    rw [Bool.and_eq_true] at this
    unfold Ent.f
    cases hh : x.stored with
    | none => rfl
    | some j => rw [hh] at this; simp only [isOn, hO j this.2, Option.isSome_some]
  refine ⟨G, ⟨(putSel_size b _ _).1.trans hS.1, (putSel_size b _ _).2.trans hS.2.1, fun e he => ?_⟩, hB, fun r hr => ?_, ?_⟩
  · obtain ⟨e2, he2, rfl⟩ := List.mem_map.1 he
    rcases hS'.mem e2 he2 with ⟨d, hd, hde⟩ | ⟨ho, v, hv, hm⟩
    · obtain ⟨k, hk⟩ := List.getElem?_of_mem hd
      have h1 := List.all_eq_true.1 hL d hd
      rw [Bool.and_eq_true] at h1
      obtain ⟨d1, d2, d3⟩ := d
      obtain ⟨e1, e3⟩ := e2
      obtain ⟨rfl, rfl⟩ := Prod.mk.inj hde
      exact zB hLo k hk hS.1 h1.2 (hO d1 h1.1)
    · obtain ⟨e1, e3⟩ := e2
      simp only at ho hv hm ⊢
      subst hv
      exact zG ho (hS.2.2 _ hm)
  · obtain ⟨x, hx, rfl⟩ := List.mem_map.1 hr
    have h := hR x hx (hbo x hx)
    rw [hf x hx] at h
    rw [Ent.row_g, Ent.row_f]
    exact h
  · rw [List.map_map, List.nodup_iff_pairwise_ne, List.pairwise_map]
    refine hD.imp_of_mem (fun {x y} hx hy h => ?_)
    show (x.row G).g ≠ (y.row G).g
    rw [Ent.row_g, Ent.row_g]
    exact h (hbo x hx) (hbo y hy)
theorem region_ {T : Bool × List (List Nat × List Nat)} {w : World} {R : List RowD} {id n sz : Nat} {S : List (Tmp × Value)} (O : List Nat) (S' : List (Tmp × SV)) (L : List (Nat × Tmp × SV)) (A : List Ent) (hm : P.follows .mixedOrders = true) (hn : ops.size = n) (hT : rtab .any ops = T) (hw : waitsOk T.2 B = true) (hk : baseOk T.2 O = true) (hl : (lof T.2.length O (fun _ => false) == List.replicate n false && O.length == n) = true)
    (hH : Held wE w R) (hR : (A.filter fun x => x.born == none).map Ent.row0 = R) (hA : (A.all fun x => (match x.born with | none => true | some j => O.contains j) && (match x.stored with | none => true | some j => O.contains j)) = true) (hLo : LOk L) (hL : (L.all fun e => O.contains e.1 && Nat.ble (e.2.1 + 1) sz) = true) (hS : Sl a0 sz S) (hS' : SlOk L S S')
    (hs : ∀ i ∈ O, StepAt P ops Q B O (RI wE a0 L A) i) (hend : ∀ G a' w', Sl a' sz (S'.map fun e => (e.1, e.2.at G)) → Held wE w' (A.map fun x => x.row G) → Q .normal a' w') : (Code.region id ops true).wp P Q a0 w := by
  refine start_ (n := n) (S := fun _ => True) (ds := []) (Array.replicate n false) hm hn rfl trivial (fun _ => ?_)
  have hH' : Held wE w.drew R := ⟨hH.1.drew, fun r hr => ⟨(hH.2.1 r hr).1, (hH.2.1 r hr).2⟩, hH.2.2⟩
  refine inv_ O (RI wE a0 L A) hT hw hk (by simpa using hl) (RI.start hH' hR) hs (fun b a' w' hall hI => ?_)
  obtain ⟨G, h1, h2⟩ := hI.fin hall hA hLo hL hS hS'
  exact hend G a' w' h1 h2
theorem list_all (B : List Nat) (I : (Nat → Bool) → Act → World → Prop) (hs : ∀ i ∈ List.range ops.size, StepAt P ops Q B (List.range ops.size) I i)
    (hB : ∀ i j, (List.range ops.size).contains j = true → (B.getD i 0).testBit j = true → j < i) (hend : ∀ a w, I (fun j => decide (j < ops.size)) a w → Q .normal a w) :
    ∀ (m k : Nat) (a : Act) (w : World), k + m = ops.size → I (fun j => decide (j < k)) a w → wpList P ops Q (ops.toList.drop k) a w
  | 0, k, a, w, hk, hI => by
    have e : ops.toList.drop k = [] := by rw [List.drop_eq_nil_iff]; simp; omega
    rw [e]
    have e2 : k = ops.size := by omega
    subst e2
    exact hend a w hI
  | m + 1, k, a, w, hk, hI => by
    have hlt : k < ops.toList.length := by simp; omega
    rw [List.drop_eq_getElem_cons hlt]
    obtain ⟨oi, hoi, h⟩ := hs k (List.mem_range.2 (by omega)) _ a w hI (by simp) (fun j hj => by
      rw [Bool.and_eq_true] at hj
      simpa using hB k j hj.1 hj.2) (fun d hd => by
      rw [Bool.and_eq_true] at hd
      have := hB d k (by simp; omega) hd.2
      simp; omega)
    have e : ops.toList[k] = oi := by
      have h1 := List.getElem?_eq_getElem hlt
      rw [Array.getElem?_toList, hoi] at h1
      exact (Option.some.inj h1).symm
    rw [e]
    refine wpList_step (fun K hK => h K (fun a' w' hI' => hK a' w' (list_all B I hs hB hend m (k + 1) a' w' (by omega) ?_)))
    have e2 : (fun j => decide (j < k + 1)) = up (fun j => decide (j < k)) k := by
      funext j
      unfold up
      split
      · subst j; simp
      · rename_i hne
        have : (j < k + 1) = (j < k) := by apply propext; omega
        simp only [this]
    rw [e2]
    exact hI'
def lowB (B : List Nat) (n : Nat) : Bool := (List.range B.length).all fun i => (B.getD i 0) < 2 ^ i
theorem lowB_is {n : Nat} (h : lowB B n = true) (i j : Nat) (hj : (B.getD i 0).testBit j = true) : j < i := by
  by_cases hi : i < B.length
  · have h1 := List.all_eq_true.1 h i (List.mem_range.2 hi)
    rw [decide_eq_true_eq] at h1
    apply Decidable.byContradiction
    intro hn
    have : (B.getD i 0).testBit j = false := Nat.testBit_lt_two_pow (Nat.lt_of_lt_of_le h1 (Nat.pow_le_pow_right (by omega) (by omega)))
    rw [this] at hj; cases hj
  · rw [List.getD_eq_getElem?_getD, List.getElem?_eq_none (by omega)] at hj
    simp at hj
theorem zK {w : World} {R : List RowD} {id n sz : Nat} {S : List (Tmp × Value)} (B : List Nat) (S' : List (Tmp × SV)) (L : List (Nat × Tmp × SV)) (A : List Ent) (hn : ops.size = n) (hB : lowB B n = true)
    (hH : Held wE w R) (hR : (A.filter fun x => x.born == none).map Ent.row0 = R) (hA : (A.all fun x => (match x.born with | none => true | some j => (List.range n).contains j) && (match x.stored with | none => true | some j => (List.range n).contains j)) = true) (hLo : LOk L) (hL : (L.all fun e => (List.range n).contains e.1 && Nat.ble (e.2.1 + 1) sz) = true) (hS : Sl a0 sz S) (hS' : SlOk L S S')
    (hs : ∀ i ∈ List.range n, StepAt P ops Q B (List.range n) (RI wE a0 L A) i) (hend : ∀ G a' w', Sl a' sz (S'.map fun e => (e.1, e.2.at G)) → Held wE w' (A.map fun x => x.row G) → Q .normal a' w') : (Code.region id ops false).wp P Q a0 w := by
  subst hn
  refine wp_region_list ?_
  have h := list_all (P := P) (Q := Q) (ops := ops) B (RI wE a0 L A) hs (fun i j _ hj => lowB_is hB i j hj) (fun a w hI => by
    obtain ⟨G, h1, h2⟩ := hI.fin (O := List.range ops.size) (fun j hj => by simpa using hj) hA hLo hL hS hS'
    exact hend G a w h1 h2) ops.size 0 a0 w (by omega) (by
      have e : (fun j : Nat => decide (j < 0)) = fun _ => false := by funext j; simp
      rw [e]
      exact RI.start hH hR)
  simpa using h
theorem then_ {K : Act → World → Prop} {a : Act} {w : World} (h : K a w) : Exit.then K Q .normal a w := h
theorem zS {K : Act → World → Prop} {a : Act} {w : World} (h : Q .ret a w) : Exit.then K Q .ret a w := h
theorem args0 {ev : Operand → Value} : (#[] : Array Operand).map ev = #[] := by simp
theorem args1 {ev : Operand → Value} {x : Operand} {u : Value} (h : ev x = u) : #[x].map ev = #[u] := by simp [h]
theorem args2 {ev : Operand → Value} {x y : Operand} {u v : Value} (h : ev x = u) (h2 : ev y = v) : #[x, y].map ev = #[u, v] := by simp [h, h2]
theorem args3 {ev : Operand → Value} {x y z : Operand} {u v t : Value} (h : ev x = u) (h2 : ev y = v) (h3 : ev z = t) : #[x, y, z].map ev = #[u, v, t] := by simp [h, h2, h3]
theorem exec_box {o : Oper} {ev : Operand → Value} {w : World} {ty : TypeId} {x : Operand} {v : Value} {p : Value} {w' : World} (ho : o.op = .box ty x) (hx : ev x = v) (h : (Instr.box ty v).run P w = .ok p w') : (execOp ev o).run P w = .ok (.value p) w' := by
  unfold execOp
  simp only [ho, hx, Sem.run_bind, Sem.run_pure, h, Result.andThen_ok]
theorem exec_build {o : Oper} {ev : Operand → Value} {w : World} {ty : TypeId} {parts : Array (Nat × Operand)} {ps : Array (Nat × Value)} {v : Value} (ho : o.op = .build ty parts) (hx : (parts.map fun (i, x) => (i, ev x)) = ps) (h : (Instr.build ty ps).run P w = .ok v w) : (execOp ev o).run P w = .ok (.value v) w := by
  unfold execOp
  simp only [ho, hx, Sem.run_bind, Sem.run_pure, h, Result.andThen_ok]
theorem zH {o : Oper} {ev : Operand → Value} {w : World} {ty : TypeId} {x : Operand} {p v : Value} {n : Nat} (ho : o.op = .fieldAddr ty x n) (hx : ev x = p) (h : (Instr.fieldAt ty p n).run P w = .ok v w) : (execOp ev o).run P w = .ok (.value v) w := by
  unfold execOp
  simp only [ho, hx, Sem.run_bind, Sem.run_pure, h, Result.andThen_ok]
theorem parts0 {ev : Operand → Value} : ((#[] : Array (Nat × Operand)).map fun (i, x) => (i, ev x)) = #[] := by simp
theorem parts1 {ev : Operand → Value} {i : Nat} {x : Operand} {u : Value} (h : ev x = u) : ((#[(i, x)] : Array (Nat × Operand)).map fun (i, x) => (i, ev x)) = #[(i, u)] := by simp [h]
theorem parts2 {ev : Operand → Value} {i j : Nat} {x y : Operand} {u v : Value} (h : ev x = u) (h2 : ev y = v) : ((#[(i, x), (j, y)] : Array (Nat × Operand)).map fun (i, x) => (i, ev x)) = #[(i, u), (j, v)] := by simp [h, h2]
theorem Held.first (w : World) : Held w w [] := ⟨Below.refl _ _, fun _ h => (by cases h), List.nodup_nil⟩
theorem Held.row {wE w : World} {R : List RowD} (h : Held wE w R) (k : Nat) {r : RowD} (hk : R[k]? = some r) : Row w r.g r.k r.n r.f r.t := (h.2.1 r (List.mem_of_getElem? hk)).2
theorem st_row0 {N : Tmp} {oi : Oper} (k : Nat) (r : Nat) (x : Ent) {ty : TypeId} {p : Operand} {d : TypeDesc} (hx : A[r]? = some x) (hoi : ops[i]? = some oi) (hN : oi.dst = some N) (ho : oi.op = .load ty p) (hw : ∀ b G, Ons B O i b → Offs B O i b → Region.wanted oi (yielded ops (zQ a0 b (vals G L)).tmps) = true)
    (hLo : LOk L) (hL : L[k]? = some (i, N, .val (.agg (FR x.k x.n x.f0)))) (hA : (A.all fun x => !(x.born == some i) && !(x.stored == some i)) = true)
    (hbo : onB B O i x.born = true) (hst : offB B O i x.stored = true) (hu : P.underlying ty = some d) (hi : (P.info? ty).map (·.size) = some x.n) (hdd : (match d with | .struct _ | .array _ _ => true | _ => false) = true)
    (hp : ∀ b G, Ons B O i b → Offs B O i b → (zQ a0 b (vals G L)).eval p = .pointer (some ⟨x.ad G, 0, none⟩)) : StepAt P ops Q B O (RI wE a0 L A) i :=
  st_keep k (.val (.agg (FR x.k x.n x.f0))) hoi hN hLo hL hA (fun b G w K hB hon hoff hR hK => by
    have h := (hR x (List.mem_of_getElem? hx) (onB_is hbo hon)).2
    have e : x.f b = x.f0 := by unfold Ent.f; rw [offB_is hst hoff]; rfl
    rw [e] at h
    exact event_step (hw b G hon hoff) (exec_load h hu hi hdd ho (hp b G hon hoff)) (hK _ (Below.refl _ _)))
def argS (args : Array Value) : List (Tmp × Value) := args.toList.zipIdx.map fun e => (e.2, e.1)
theorem enter_ {f : FuncId} {fn : Func} {c : Code} {args : Array Value} {w : World} {R : Ending → World → Prop} (sz : Nat) (hf : P.funcs[f]? = some fn) (hb : fn.body = some c) (hsz : args.size + (fn.ntmps - args.size) = sz)
    (h : ∀ a, Sl a sz (argS args) → c.wp P (bodyPost P fn R) a w) : Calls P f args w R := by
  refine calls_of_wp hf hb (h _ ⟨by simpa using hsz, rfl, fun e he => ?_⟩)
  unfold argS at he
  obtain ⟨⟨v, j⟩, hm, rfl⟩ := List.mem_map.1 he
  have h1 := List.mem_zipIdx_iff_getElem?.1 hm
  simp only at h1
  have h2 : args[j]? = some v := by rw [← Array.getElem?_toList]; exact h1
  have hlt : j < args.size := (Array.getElem?_eq_some_iff.1 h2).1
  show (args ++ Array.replicate (fn.ntmps - args.size) undef).getD j undef = v
  rw [Array.getD_eq_getD_getElem?, Array.getElem?_append_left hlt, h2]
  rfl
theorem zE {b : Nat → Bool} {G : Nat → Nat} {oi oj : Oper} {j : Nat} {t u : Bool} {N : Tmp} (hg : oi.guard = some (j, t)) (hoj : ops[j]? = some oj) (hN : oj.dst = some N) {sz : Nat} (hsz : a0.tmps.size = sz) (hs : Nat.ble (N + 1) sz = true) (hv : (zQ a0 b (vals G L)).eval (.tmp N) = .bool u) {r : Bool} (hr : (u == t) = r) :
    Region.wanted oi (yielded ops (zQ a0 b (vals G L)).tmps) = r := by
  have hlt : N < (zQ a0 b (vals G L)).tmps.size := by rw [(putSel_size b _ _).1, hsz]; exact Nat.le_of_ble_eq_true hs
  have h1 : (zQ a0 b (vals G L)).tmps[N]? = some (.bool u) := by
    have h2 : (zQ a0 b (vals G L)).tmps.getD N undef = .bool u := hv
    rw [Array.getD_eq_getD_getElem?, Array.getElem?_eq_getElem hlt] at h2
    rw [Array.getElem?_eq_getElem hlt]
    exact congrArg some h2
  unfold Region.wanted yielded
  simp only [hg, hoj, Option.bind_some, hN, h1]
  subst hr
  cases u <;> cases t <;> rfl
theorem wanted_un {b : Nat → Bool} {G : Nat → Nat} {oi oj : Oper} {j : Nat} {t : Bool} {N : Tmp} (hg : oi.guard = some (j, t)) (hoj : ops[j]? = some oj) (hN : oj.dst = some N) {sz : Nat} (hsz : a0.tmps.size = sz) (hs : Nat.ble (N + 1) sz = true) (hv : (zQ a0 b (vals G L)).eval (.tmp N) = undef) :
    Region.wanted oi (yielded ops (zQ a0 b (vals G L)).tmps) = false := by
  have hlt : N < (zQ a0 b (vals G L)).tmps.size := by rw [(putSel_size b _ _).1, hsz]; exact Nat.le_of_ble_eq_true hs
  have h1 : (zQ a0 b (vals G L)).tmps[N]? = some undef := by
    have h2 : (zQ a0 b (vals G L)).tmps.getD N undef = undef := hv
    rw [Array.getD_eq_getD_getElem?, Array.getElem?_eq_getElem hlt] at h2
    rw [Array.getElem?_eq_getElem hlt]
    exact congrArg some h2
  unfold Region.wanted yielded
  simp only [hg, hoj, Option.bind_some, hN, h1]
  cases t <;> rfl
theorem zL {N : Tmp} {oi : Oper} (k : Nat) (hoi : ops[i]? = some oi) (hN : oi.dst = some N) (hLo : LOk L) (hL : L[k]? = some (i, N, .val undef)) (hA : (A.all fun x => !(x.born == some i) && !(x.stored == some i)) = true)
    (hw : ∀ b G, Ons B O i b → Offs B O i b → Region.wanted oi (yielded ops (zQ a0 b (vals G L)).tmps) = false) : StepAt P ops Q B O (RI wE a0 L A) i :=
  st_keep k (.val undef) hoi hN hLo hL hA (fun b G w K hB hon hoff hR hK => by
    rw [if_neg (by rw [hw b G hon hoff]; decide)]
    exact hK w (Below.refl _ _))
theorem zW {N : Tmp} {oi : Oper} (k r : Nat) (x : Ent) (v : SV) (hx : A[r]? = some x) (hoi : ops[i]? = some oi) (hN : oi.dst = some N) (hLo : LOk L) (hL : L[k]? = some (i, N, v))
    (hA : (A.all fun x => !(x.born == some i) && !(x.stored == some i)) = true) (hw : ∀ b G, Ons B O i b → Offs B O i b → Region.wanted oi (yielded ops (zQ a0 b (vals G L)).tmps) = true)
    (hbo : onB B O i x.born = true) (hst : offB B O i x.stored = true) (hrun : ∀ b G w, Ons B O i b → Offs B O i b → Row w (x.ad G) x.k x.n x.f0 x.t → (execOp (zQ a0 b (vals G L)).eval oi).run P w = .ok (.value (v.at G)) w) : StepAt P ops Q B O (RI wE a0 L A) i :=
  st_keep k v hoi hN hLo hL hA (fun b G w K hB hon hoff hR hK => by
    have h := (hR x (List.mem_of_getElem? hx) (onB_is hbo hon)).2
    have e : x.f b = x.f0 := by unfold Ent.f; rw [offB_is hst hoff]; rfl
    rw [e] at h
    exact event_step (hw b G hon hoff) (hrun b G w hon hoff h) (hK _ (Below.refl _ _)))
theorem st_put {oi : Oper} (r : Nat) (x : Ent) (hx : A[r]? = some x) (hxs : x.stored = some i) (hoi : ops[i]? = some oi) (hN : oi.dst = none) (hw : ∀ b G, Ons B O i b → Offs B O i b → Region.wanted oi (yielded ops (zQ a0 b (vals G L)).tmps) = true)
    (hL : (L.all fun e => !(e.1 == i)) = true) (hA : (A.all fun x => !(x.born == some i)) = true) (hAs : ((A.take r ++ A.drop (r + 1)).all fun x => !(x.stored == some i)) = true) (hbo : onB B O i x.born = true)
    (hrun : ∀ b G w, Ons B O i b → Offs B O i b → Row w (x.ad G) x.k x.n x.f0 x.t → ∃ w', (execOp (zQ a0 b (vals G L)).eval oi).run P w = .ok .skip w' ∧ Stored w w' (x.ad G) ∧ Row w' (x.ad G) x.k x.n x.f1 x.t) : StepAt P ops Q B O (RI wE a0 L A) i := by
  rintro b a w ⟨G, rfl, hB, hR, hD⟩ hb hon hoff
  have hxm := List.mem_of_getElem? hx
  have h0 := hR x hxm (onB_is hbo hon)
  have e0 : x.f b = x.f0 := by unfold Ent.f; rw [hxs]; exact if_neg (by rw [show isOn b false (some i) = b i from rfl, hb]; decide)
  rw [e0] at h0
  obtain ⟨w', hr1, hs, hr⟩ := hrun b G w hon hoff h0.2
  refine ⟨oi, hoi, fun K hK => ?_⟩
  rw [if_pos (hw b G hon hoff)]
  unfold Oper.wp
  rw [hr1, Oper.upon_skip]
  rw [hN]
  refine hK _ _ ⟨G, (putSel_same (by unfold vals; rw [List.all_map]; exact hL)).symm, hs.bel _ _ h0.1 hB, fun z hz hbz => ?_, ?_⟩
  · have hzb := List.all_eq_true.1 hA z hz
    rw [Bool.not_eq_true'] at hzb
    rw [isOn_up hzb] at hbz
    obtain ⟨j, hj⟩ := List.getElem?_of_mem hz
    by_cases hjr : j = r
    · subst hjr
      rw [hx] at hj
      obtain rfl := Option.some.inj hj
      have e : x.f (up b i) = x.f1 := by unfold Ent.f; rw [hxs]; exact if_pos (up_self b i)
      rw [e]
      exact ⟨h0.1, hr⟩
    · have hm : z ∈ A.take r ++ A.drop (r + 1) := by
        rw [List.mem_append]
        by_cases hlt : j < r
        · left; exact List.mem_of_getElem? (i := j) (by rw [List.getElem?_take_of_lt hlt]; exact hj)
        · right; exact List.mem_of_getElem? (i := j - (r + 1)) (by rw [List.getElem?_drop]; rw [show r + 1 + (j - (r + 1)) = j by omega]; exact hj)
      have h2 := List.all_eq_true.1 hAs z hm
      rw [Bool.not_eq_true'] at h2
      have e : z.f (up b i) = z.f b := by unfold Ent.f; rw [isOn_up h2]
      rw [e]
      have hz0 := hR z hz hbz
      refine ⟨hz0.1, hz0.2.stored hs ?_⟩
      rw [List.pairwise_iff_getElem] at hD
      obtain ⟨hjl, hje⟩ := List.getElem?_eq_some_iff.1 hj
      obtain ⟨hrl, hre⟩ := List.getElem?_eq_some_iff.1 hx
      by_cases hlt : j < r
      · have := hD j r hjl hrl hlt (by rw [hje]; exact hbz) (by rw [hre]; exact onB_is hbo hon)
        rwa [hje, hre] at this
      · have := hD r j hrl hjl (by omega) (by rw [hre]; exact onB_is hbo hon) (by rw [hje]; exact hbz)
        rw [hje, hre] at this
        exact fun e => this e.symm
  · refine hD.imp_of_mem (fun {z y} hz hy h h1 h2 => ?_)
    have hz2 := List.all_eq_true.1 hA z hz
    have hy2 := List.all_eq_true.1 hA y hy
    rw [Bool.not_eq_true'] at hz2 hy2
    rw [isOn_up hz2] at h1
    rw [isOn_up hy2] at h2
    exact h h1 h2
theorem zD {o : Oper} {ev : Operand → Value} {w : World} {x : Operand} {v : Value} (ho : o.op = .move x ∨ o.op = .assign x) (hx : ev x = v) : (execOp ev o).run P w = .ok (.value v) w := by
  unfold execOp
  rcases ho with ho | ho <;> simp only [ho, hx, Sem.run_pure]
theorem zJ {o : Oper} {ev : Operand → Value} {w : World} {op : BinOp} {t u : TypeId} {x y : Operand} {a b v : Value} (ho : o.op = .binOp op t x y u) (hx : ev x = a) (hy : ev y = b) (h : (do eqGuard op t x y a b; binOp op t a b : Sem Value).run P w = .ok v w) : (execOp ev o).run P w = .ok (.value v) w := by
  unfold execOp
  simp only [ho, hx, hy]
  rw [Sem.run_bind, h]
  rfl
theorem exec_un {o : Oper} {ev : Operand → Value} {w : World} {op : UnOp} {t : TypeId} {x : Operand} {a v : Value} (ho : o.op = .unOp op t x) (hx : ev x = a) (h : (Op.unary op a).run P w = .ok v w) : (execOp ev o).run P w = .ok (.value v) w := by
  unfold execOp
  simp only [ho, hx]
  rw [Sem.run_bind, h]
  rfl
theorem exec_extract {o : Oper} {ev : Operand → Value} {w : World} {x : Operand} {n : Nat} {a v : Value} (ho : o.op = .extract x n) (hx : ev x = a) (h : (Instr.extract a n).run P w = .ok v w) : (execOp ev o).run P w = .ok (.value v) w := by
  unfold execOp
  simp only [ho, hx]
  rw [Sem.run_bind, h]
  rfl
theorem zO {o : Oper} {ev : Operand → Value} {w : World} {c x y : Operand} {t : Bool} {v : Value} (ho : o.op = .pick c x y) (hc : ev c = .bool t) (hx : ev (if t then x else y) = v) : (execOp ev o).run P w = .ok (.value v) w := by
  unfold execOp
  simp only [ho, hc]
  cases t <;> simp_all [asBool]
theorem zU {o : Oper} {ev : Operand → Value} {w : World} {t : TypeId} {x y : Operand} {a b v : Value} (ho : o.op = .indexAddr t x y) (hx : ev x = a) (hy : ev y = b) (h : (Instr.indexAt t a b).run P w = .ok v w) : (execOp ev o).run P w = .ok (.value v) w := by
  unfold execOp
  simp only [ho, hx, hy]
  rw [Sem.run_bind, h]
  rfl
theorem exec_convert {o : Oper} {ev : Operand → Value} {w : World} {s d : TypeId} {x : Operand} {a v : Value} (ho : o.op = .convert s d x) (hx : ev x = a) (h : (convert s d a).run P w = .ok v w) : (execOp ev o).run P w = .ok (.value v) w := by
  unfold execOp
  simp only [ho, hx]
  rw [Sem.run_bind, h]
  rfl
theorem zP {o : Oper} {ev : Operand → Value} {w : World} {k : CK} {n g j : Nat} {f : Nat → SC} {t ty : TypeId} {x : Operand} {d : TypeDesc} (hr : Row w g k n f t) (hj : j < n) (hu : P.underlying ty = some d) (hd : (match d with | .struct _ | .array _ _ => false | _ => true) = true) (ho : o.op = .load ty x) (hx : ev x = .pointer (some ⟨g, j, none⟩)) :
    (execOp ev o).run P w = .ok (.value (mkc k (f j))) w := by
  have ha : (isAgg ty).run P w = .ok false w := by
    simp only [isAgg, Sem.run_bind, run_underlying hu, Result.andThen_ok]
    cases d <;> simp_all
  unfold execOp
  simp only [ho, hx, Instr.loadAt, Instr.sureAddr, Sem.run_bind, Sem.run_pure, Result.andThen_ok, loadVar, ha, Bool.false_eq_true, if_false, run_load, hr.cell j hj]
def updR (f : Nat → SC) (o m : Nat) (v : Nat → SC) (j : Nat) : SC := if o ≤ j ∧ j < o + m then v (j - o) else f j
theorem setCells_FR {g : Nat} {k : CK} {n : Nat} {v : Nat → SC} {t : TypeId} {o : Nat} : ∀ (m : Nat) (s : Nat) (w : World) (f : Nat → SC), Row w g k n f t → o + s + m ≤ n → Row (w.setCells g (o + s) ((List.range' s m).map fun j => mkc k (v j))) g k n (fun j => if o + s ≤ j ∧ j < o + s + m then v (j - o) else f j) t
  | 0, s, w, f, h, _ => by
    have e : (fun j => if o + s ≤ j ∧ j < o + s + 0 then v (j - o) else f j) = f := by funext j; rw [if_neg (by omega)]
    rw [e]; exact h
  | m + 1, s, w, f, h, hm => by
    have h1 := h.set (o + s) (v s) (by omega)
    have h2 := setCells_FR (v := v) (o := o) m (s + 1) _ _ h1 (by omega)
    have e : (fun j => if o + s ≤ j ∧ j < o + s + (m + 1) then v (j - o) else f j) = fun j => if o + (s + 1) ≤ j ∧ j < o + (s + 1) + m then v (j - o) else upd f (o + s) (v s) j := by
      funext j
      unfold upd
      by_cases hj : j = o + s
      · subst hj
        rw [if_pos (by omega), if_neg (by omega), if_pos rfl]
        congr 1; omega
      · by_cases hj2 : o + (s + 1) ≤ j ∧ j < o + (s + 1) + m
        · rw [if_pos (by omega), if_pos hj2]
        · rw [if_neg (by omega), if_neg hj2, if_neg hj]
    rw [e]
    exact h2
theorem FR_list (k : CK) (m : Nat) (v : Nat → SC) : (FR k m v).toList = (List.range' 0 m).map fun j => mkc k (v j) := by
  apply List.ext_getElem?
  intro j
  rw [Array.getElem?_toList, List.getElem?_map]
  by_cases hj : j < m
  · rw [FR_at _ _ _ _ hj, List.getElem?_range' hj]
    simp
  · rw [FR_out _ _ _ _ hj, List.getElem?_eq_none (by simp; omega)]
    rfl
theorem Row.part {w : World} {g : Nat} {k : CK} {n : Nat} {f : Nat → SC} {t : TypeId} (h : Row w g k n f t) (o m : Nat) (v : Nat → SC) (hm : o + m ≤ n) : Row (w.setCells g o (FR k m v).toList) g k n (updR f o m v) t := by
  rw [FR_list]
  exact setCells_FR (v := v) (o := o) m 0 w f h (by omega)
theorem exec_put1 {o : Oper} {ev : Operand → Value} {w : World} {k : CK} {n g j : Nat} {f : Nat → SC} {z : SC} {t ty : TypeId} {x y : Operand} (hr : Row w g k n f t) (hj : j < n) (hi : (P.info? ty).map (·.size) = some 1) (ho : o.op = .store ty x y) (hx : ev x = .pointer (some ⟨g, j, none⟩)) (hy : ev y = mkc k z) :
    ∃ w', (execOp ev o).run P w = .ok .skip w' ∧ Stored w w' g ∧ Row w' g k n (upd f j z) t := by
  obtain ⟨ie, hie, hs⟩ : ∃ ie, P.info? ty = some ie ∧ ie.size = 1 := by
    cases he : P.info? ty with
    | none => rw [he] at hi; cases hi
    | some ie => rw [he] at hi; exact ⟨ie, rfl, Option.some.inj hi⟩
  refine ⟨w.setCell ⟨g, j, none⟩ (mkc k z), ?_, ⟨fun q hq => heap_setCell_other _ _ _ _ hq, by simp [World.setCell], fun B W hB hb => hb.setCell hB _⟩, hr.set j z hj⟩
  unfold execOp
  simp only [ho, hx, hy]
  have hti : (typeInfo ty).run P w = .ok ie w := by simp [typeInfo, hie]
  have h1 : (Instr.storeAt ty (.pointer (some ⟨g, j, none⟩)) (mkc k z)).run P w = .ok () (w.setCell ⟨g, j, none⟩ (mkc k z)) := by
    have hsz : (mkc k z).cells.size = 1 := by cases z <;> rfl
    simp only [Instr.storeAt, Instr.sureAddr, Sem.run_bind, Sem.run_pure, Result.andThen_ok, storeVar, sizeOf, hti, hs, hsz, ne_eq, not_true_eq_false, if_false]
    have hcl : (mkc k z).cells.toList = [mkc k z] := by cases z <;> rfl
    rw [hcl]
    have := run_storeCells_cells (P := P) g j [mkc k z] 0 w (fun q hq => (by
      obtain rfl : q = 0 := (by simpa using hq)
      rw [Nat.add_zero, hr.cell j hj]; rfl)) (fun q hq => hr.fro _) (fun v hv => (by
      simp only [List.mem_singleton] at hv
      subst hv; exact mkc_one _ _))
    simpa [World.setCells] using this
  rw [Sem.run_bind, h1]
  rfl
theorem b_row {fn : Func} {R : Ending → World → Prop} {p : Tmp} {ty : TypeId} {a : Act} {w : World} {g n : Nat} {k : CK} {f : Nat → SC} {t : TypeId} {d : TypeDesc} (h : fn.results = #[.cell p ty]) (hd : a.defers = []) (hp : a.eval (.tmp p) = .pointer (some ⟨g, 0, none⟩)) (hr : Row w g k n f t)
    (hu : P.underlying ty = some d) (hdd : (match d with | .struct _ | .array _ _ => true | _ => false) = true) (hi : (P.info? ty).map (·.size) = some n) (hR : R (.returned (.agg (FR k n f))) w) : bodyPost P fn R .ret a w :=
  ⟨hd, _, row_results h hr hp hu hdd hi, hR⟩
theorem b_tmp {fn : Func} {R : Ending → World → Prop} {p : Tmp} {a : Act} {w : World} {v : Value} (h : fn.results = #[.tmp p]) (hd : a.defers = []) (hp : a.eval (.tmp p) = v) (hR : R (.returned v) w) : bodyPost P fn R .ret a w :=
  ⟨hd, v, by have hp' : a.tmps.getD p undef = v := hp; rw [← hp']; exact results_tmp h _ _ _, hR⟩
theorem b_row2 {fn : Func} {R : Ending → World → Prop} {p q : Tmp} {ty : TypeId} {a : Act} {w : World} {g n : Nat} {k : CK} {f : Nat → SC} {t : TypeId} {d : TypeDesc} {v : Value} (h : fn.results = #[.cell p ty, .tmp q]) (hd : a.defers = []) (hp : a.eval (.tmp p) = .pointer (some ⟨g, 0, none⟩)) (hq : a.eval (.tmp q) = v) (hr : Row w g k n f t)
    (hu : P.underlying ty = some d) (hdd : (match d with | .struct _ | .array _ _ => true | _ => false) = true) (hi : (P.info? ty).map (·.size) = some n) (hR : R (.returned (.tuple #[.agg (FR k n f), v])) w) : bodyPost P fn R .ret a w := by
  refine ⟨hd, .tuple #[.agg (FR k n f), v], ?_, hR⟩
  have hp' : a.tmps[p]?.getD undef = .pointer (some ⟨g, 0, none⟩) := by rw [← Array.getD_eq_getD_getElem?]; exact hp
  have hq' : a.tmps[q]?.getD undef = v := by rw [← Array.getD_eq_getD_getElem?]; exact hq
  simp [results, h, hp', hq', asAddr, run_loadVar_row w g t ty _ _ d hr hu hdd (by rw [FR_size]; exact hi)]
theorem exec_buildSlice {o : Oper} {ev : Operand → Value} {w w' : World} {t : TypeId} {n : Nat} {parts : Array (Nat × Operand)} {ps : Array (Nat × Value)} {v : Value} (ho : o.op = .buildSlice t n parts) (hx : (parts.map fun (i, x) => (i, ev x)) = ps) (h : (Instr.buildSlice t n ps).run P w = .ok v w') : (execOp ev o).run P w = .ok (.value v) w' := by
  unfold execOp
  simp only [ho, hx]
  rw [Sem.run_bind, h]
  rfl
theorem zV {K : Act → World → Prop} {a : Act} {w : World} {id : Nat} (h : Q (.exit id) a w) : Exit.then K Q (.exit id) a w := h
theorem inBlock_exit {a : Act} {w : World} {id : Nat} (h : Q .normal a w) : Exit.inBlock id Q (.exit id) a w := by unfold Exit.inBlock; simp only [if_true]; exact h
theorem zT {a : Act} {w : World} {id : Nat} (h : Q .normal a w) : Exit.inBlock id Q .normal a w := h
end
end Go.Proofs.YtlfplmlehbomlaaDoor.P
end

section
namespace Go.Proofs.YtlfplmlehbomlaaDoor.P
set_option linter.unusedVariables false
set_option linter.unusedSimpArgs false
def cmpB (a b : List UInt8) : Int := Lib.compareBytes a b
theorem cmpB_cons (a b : UInt8) (la bs : List UInt8) : cmpB (a :: la) (b :: bs) = if a < b then -1 else if b < a then 1 else cmpB la bs := rfl
theorem u8_eq {a b : UInt8} (h1 : ¬ a < b) (h2 : ¬ b < a) : a = b := by
  have h1 : ¬ a.toNat < b.toNat := h1
  have h2 : ¬ b.toNat < a.toNat := h2
  exact UInt8.toNat_inj.1 (by omega)
theorem cmpB_zero : ∀ {a b : List UInt8}, cmpB a b = 0 ↔ a = b
  | [], [] => ⟨fun _ => rfl, fun _ => rfl⟩
  | [], _ :: _ => ⟨fun h => (by cases h), fun h => (by cases h)⟩
  | _ :: _, [] => ⟨fun h => (by cases h), fun h => (by cases h)⟩
  | a :: la, b :: bs => by
    rw [cmpB_cons]
    by_cases h1 : a < b
    · rw [if_pos h1]
      refine ⟨fun h => (by cases h), fun h => ?_⟩
      injection h with h2 h3
      subst h2
      exact absurd h1 (UInt8.lt_irrefl _)
    · rw [if_neg h1]
      by_cases h2 : b < a
      · rw [if_pos h2]
        refine ⟨fun h => (by cases h), fun h => ?_⟩
        injection h with h3 h4
        subst h3
        exact absurd h2 (UInt8.lt_irrefl _)
      · rw [if_neg h2, cmpB_zero, u8_eq h1 h2]
        constructor
        · rintro rfl; rfl
        · intro h; injection h
theorem cmpB_nil_cons (a : UInt8) (l : List UInt8) : cmpB [] (a :: l) = -1 := rfl
theorem cmpB_cons_nil (a : UInt8) (l : List UInt8) : cmpB (a :: l) [] = 1 := rfl
theorem cmpB_nil : cmpB [] [] = 0 := rfl
theorem cmpB_trans : ∀ {a b c : List UInt8}, cmpB a b < 0 → cmpB b c ≤ 0 → cmpB a c < 0
  | [], [], c, h, _ => by rw [cmpB_nil] at h; omega
  | [], _ :: _, [], _, h => by rw [cmpB_cons_nil] at h; omega
  | [], _ :: _, _ :: _, _, _ => by rw [cmpB_nil_cons]; omega
  | _ :: _, [], c, h, _ => by rw [cmpB_cons_nil] at h; omega
  | _ :: _, _ :: _, [], _, h => by rw [cmpB_cons_nil] at h; omega
  | a :: la, b :: bs, c :: cs, h1, h2 => by
    rw [cmpB_cons] at h1 h2 ⊢
    by_cases q1 : a < b
    · by_cases q2 : b < c
      · rw [if_pos (UInt8.lt_trans q1 q2)]; decide
      · rw [if_neg q2] at h2
        by_cases q3 : c < b
        · rw [if_pos q3] at h2; exact absurd h2 (by decide)
        · have e := u8_eq q2 q3
          subst e
          rw [if_pos q1]; decide
    · rw [if_neg q1] at h1
      by_cases q2 : b < a
      · rw [if_pos q2] at h1; exact absurd h1 (by decide)
      · rw [if_neg q2] at h1
        have e := u8_eq q1 q2
        subst e
        by_cases q3 : a < c
        · rw [if_pos q3]; decide
        · rw [if_neg q3] at h2 ⊢
          by_cases q4 : c < a
          · rw [if_pos q4] at h2; exact absurd h2 (by decide)
          · rw [if_neg q4] at h2 ⊢
            exact cmpB_trans h1 h2
def Rise (n : Nat) (K : Nat → List UInt8) : Prop := ∀ i, i + 1 < n → cmpB (K i) (K (i + 1)) < 0
theorem Rise.lt {n : Nat} {K : Nat → List UInt8} (h : Rise n K) : ∀ (j i : Nat), i < j → j < n → cmpB (K i) (K j) < 0
  | 0, i, hi, _ => by omega
  | j + 1, i, hi, hj => by
    by_cases e : i = j
    · subst e; exact h i hj
    · exact cmpB_trans (h.lt j i (by omega) (by omega)) (Int.le_of_lt (h j hj))
def Cut (n : Nat) (K : Nat → List UInt8) (key : List UInt8) (i j : Nat) : Prop := i ≤ j ∧ j ≤ n ∧ (∀ k, k < i → cmpB (K k) key < 0) ∧ ∀ k, j ≤ k → k < n → ¬ cmpB (K k) key < 0
theorem Cut.first (n : Nat) (K : Nat → List UInt8) (key : List UInt8) : Cut n K key 0 n := ⟨Nat.zero_le _, Nat.le_refl _, fun k h => by omega, fun k h1 h2 => by omega⟩
theorem Cut.up {n : Nat} {K : Nat → List UInt8} {key : List UInt8} {i j h : Nat} (hr : Rise n K) (hc : Cut n K key i j) (h1 : i ≤ h) (h2 : h < j) (hl : cmpB (K h) key < 0) : Cut n K key (h + 1) j := by
  obtain ⟨a, b, c, d⟩ := hc
  refine ⟨by omega, b, fun k hk => ?_, d⟩
  by_cases e : k = h
  · subst e; exact hl
  · exact cmpB_trans (hr.lt h k (by omega) (by omega)) (Int.le_of_lt hl)
theorem Cut.down {n : Nat} {K : Nat → List UInt8} {key : List UInt8} {i j h : Nat} (hr : Rise n K) (hc : Cut n K key i j) (h1 : i ≤ h) (h2 : h < j) (hl : ¬ cmpB (K h) key < 0) : Cut n K key i h := by
  obtain ⟨a, b, c, d⟩ := hc
  refine ⟨h1, by omega, c, fun k hk hn hlt => hl ?_⟩
  by_cases e : k = h
  · subst e; exact hlt
  · exact cmpB_trans (hr.lt k h (by omega) hn) (Int.le_of_lt hlt)
theorem Cut.meet {n : Nat} {K : Nat → List UInt8} {key : List UInt8} {i : Nat} (hr : Rise n K) (hc : Cut n K key i i) (k : Nat) (hk : k < n) : K k = key ↔ k = i ∧ K i = key := by
  obtain ⟨_, b, c, d⟩ := hc
  constructor
  · intro e
    have hz : cmpB (K k) key = 0 := cmpB_zero.2 e
    have h1 : ¬ k < i := fun h => by have := c k h; omega
    by_cases e2 : k = i
    · subst e2; exact ⟨rfl, e⟩
    · exfalso
      have h3 : i < k := by omega
      have h4 := hr.lt k i h3 hk
      rw [e] at h4
      exact d i (Nat.le_refl _) (by omega) h4
  · rintro ⟨rfl, e⟩; exact e
end Go.Proofs.YtlfplmlehbomlaaDoor.P
end

section
namespace Go.Proofs.YtlfplmlehbomlaaDoor.P
set_option linter.unusedVariables false
set_option linter.unusedSimpArgs false
inductive T where
  | no
  | mk (kind : Int) (is : Bool) (n : Int) (s : ByteArray) (xl : Option Addr) (ll cl : Nat) (L : Nat → T) (xm : Option Addr) (ml cm : Nat) (K : Nat → ByteArray) (M : Nat → T)
namespace T
def kind : T → Int | .no => 0 | .mk k _ _ _ _ _ _ _ _ _ _ _ _ => k
def num : T → Int | .no => 0 | .mk _ _ n _ _ _ _ _ _ _ _ _ _ => n
def txt : T → ByteArray | .no => ByteArray.empty | .mk _ _ _ s _ _ _ _ _ _ _ _ _ => s
def ml : T → Nat | .no => 0 | .mk _ _ _ _ _ _ _ _ _ ml _ _ _ => ml
def ll : T → Nat | .no => 0 | .mk _ _ _ _ _ ll _ _ _ _ _ _ _ => ll
def key : T → Nat → ByteArray | .no, _ => ByteArray.empty | .mk _ _ _ _ _ _ _ _ _ _ _ K _, i => K i
def mem : T → Nat → T | .no, _ => .no | .mk _ _ _ _ _ _ _ _ _ _ _ _ M, i => M i
def elm : T → Nat → T | .no, _ => .no | .mk _ _ _ _ _ _ _ L _ _ _ _ _, i => L i
def zero : T := .mk 0 false 0 ByteArray.empty none 0 0 (fun _ => .no) none 0 0 (fun _ => ByteArray.empty) (fun _ => .no)
def is : T → Bool | .no => false | .mk _ b _ _ _ _ _ _ _ _ _ _ _ => b
def xl : T → Option Addr | .no => none | .mk _ _ _ _ xl _ _ _ _ _ _ _ _ => xl
def cl : T → Nat | .no => 0 | .mk _ _ _ _ _ _ cl _ _ _ _ _ _ => cl
def xm : T → Option Addr | .no => none | .mk _ _ _ _ _ _ _ _ xm _ _ _ _ => xm
def cm : T → Nat | .no => 0 | .mk _ _ _ _ _ _ _ _ _ _ cm _ _ => cm
def sc (t : T) : Nat → SC
  | 0 => .i .i64 t.kind
  | 1 => .b t.is
  | 2 => .i .i64 t.num
  | 3 => .s t.txt
  | 4 => .sl t.xl t.ll t.cl
  | _ => .sl t.xm t.ml t.cm
def val (t : T) : Value := .agg (FR () 6 t.sc)
end T
def At6 (w : World) (a : Addr) (o : Nat) (t : T) : Prop := ∀ j, j < 6 → w.cell? (a.add (o + j)) = some (mkc () (t.sc j))
def reach47 : Nat := 140737488351232
def In (w : World) : T → Prop
  | .no => False
  | .mk k _ n s xl ll cl L xm ml cm K M =>
    ((Lit.int .i64 k).wf = true ∧ (Lit.int .i64 n).wf = true ∧ s.size ≤ reach47 ∧ ll ≤ reach47 ∧ ml ≤ reach47 ∧ ll ≤ cl ∧ ml ≤ cm ∧ cl ≤ maxLen ∧ cm ≤ maxLen) ∧
    (∀ i, i < ll → (∃ a, xl = some a ∧ At6 w a (i * 6) (L i)) ∧ In w (L i)) ∧
    ∀ i, i < ml → (∃ a, xm = some a ∧ w.cell? (a.add (i * 7)) = some (.string (K i)) ∧ At6 w a (i * 7 + 1) (M i)) ∧ (K i).size ≤ reach47 ∧ In w (M i)
theorem In.zero (w : World) : In w T.zero := by
  refine ⟨⟨by decide, by decide, by decide, by decide, by decide, by decide, by decide, by decide, by decide⟩, fun i h => ?_, fun i h => ?_⟩
  · exact absurd h (Nat.not_lt_zero _)
  · exact absurd h (Nat.not_lt_zero _)
theorem At6.mono {w w' : World} {a : Addr} {o : Nat} {t : T} (h : At6 w a o t) (hk : ∀ x v, w.cell? x = some v → w'.cell? x = some v) : At6 w' a o t := fun j hj => hk _ _ (h j hj)
theorem In.mono {w w' : World} (hk : ∀ x v, w.cell? x = some v → w'.cell? x = some v) : ∀ {t : T}, In w t → In w' t := by
  intro t
  induction t with
  | no => exact fun h => h
  | mk k is n s xl ll cl L xm ml cm K M ihL ihM =>
    rintro ⟨h1, h2, h3⟩
    refine ⟨h1, fun i hi => ?_, fun i hi => ?_⟩
    · obtain ⟨⟨a, ha, hc⟩, hr⟩ := h2 i hi
      exact ⟨⟨a, ha, hc.mono hk⟩, ihL i hr⟩
    · obtain ⟨⟨a, ha, hs, hc⟩, hz, hr⟩ := h3 i hi
      exact ⟨⟨a, ha, hk _ _ hs, hc.mono hk⟩, hz, ihM i hr⟩
abbrev bl (s : ByteArray) : List UInt8 := s.data.toList
theorem bl_inj {a b : ByteArray} (h : bl a = bl b) : a = b := by
  cases a with | mk a => cases b with | mk b => exact congrArg ByteArray.mk (Array.toList_inj.1 h)
def Rises : T → Prop
  | .no => True
  | .mk _ _ _ _ _ ll _ L _ ml _ K M => Rise ml (fun i => bl (K i)) ∧ (∀ i, i < ll → Rises (L i)) ∧ ∀ i, i < ml → Rises (M i)
def look (K : Nat → ByteArray) (key : ByteArray) : Nat → Option Nat
  | 0 => none
  | n + 1 => match look K key n with
    | some k => some k
    | none => if K n = key then some n else none
theorem look_none {K : Nat → ByteArray} {key : ByteArray} : ∀ {n : Nat}, look K key n = none ↔ ∀ k, k < n → K k ≠ key
  | 0 => ⟨fun _ k h => absurd h (Nat.not_lt_zero _), fun _ => rfl⟩
  | n + 1 => by
    unfold look
    constructor
    · intro h k hk
      cases e : look K key n with
      | some j => rw [e] at h; cases h
      | none =>
        rw [e] at h
        by_cases q : K n = key
        · simp only [if_pos q] at h; cases h
        · by_cases e2 : k = n
          · subst e2; exact q
          · exact look_none.1 e k (by omega)
    · intro h
      have e : look K key n = none := look_none.2 fun k hk => h k (by omega)
      rw [e]
      simp only [if_neg (h n (by omega))]
theorem look_some {K : Nat → ByteArray} {key : ByteArray} : ∀ {n k : Nat}, look K key n = some k → k < n ∧ K k = key ∧ ∀ j, j < k → K j ≠ key
  | 0, k, h => by cases h
  | n + 1, k, h => by
    unfold look at h
    cases e : look K key n with
    | some j =>
      rw [e] at h
      injection h with h; subst h
      obtain ⟨a, b, c⟩ := look_some e
      exact ⟨by omega, b, c⟩
    | none =>
      rw [e] at h
      by_cases q : K n = key
      · simp only [if_pos q] at h
        injection h with h; subst h
        exact ⟨by omega, q, fun j hj => look_none.1 e j hj⟩
      · simp only [if_neg q] at h; cases h
theorem look_is {K : Nat → ByteArray} {key : ByteArray} {n k : Nat} (h1 : k < n) (h2 : K k = key) (h3 : ∀ j, j < k → K j ≠ key) : look K key n = some k := by
  cases e : look K key n with
  | none => exact absurd h2 (look_none.1 e k h1)
  | some j =>
    obtain ⟨a, b, c⟩ := look_some e
    have : ¬ j < k := fun h => h3 j h b
    have : ¬ k < j := fun h => c k h h2
    have : j = k := by omega
    rw [this]
theorem Cut.look {n : Nat} {K : Nat → ByteArray} {key : ByteArray} {i : Nat} (hr : Rise n fun k => bl (K k)) (hc : Cut n (fun k => bl (K k)) (bl key) i i) :
    look K key n = if i < n ∧ K i = key then some i else none := by
  have hm := fun k hk => hc.meet hr (k := k) hk
  by_cases q : i < n ∧ K i = key
  · rw [if_pos q]
    exact look_is q.1 q.2 fun j hj e => by
      have := ((hm j (by omega)).1 (by show bl (K j) = bl key; rw [e])).1
      omega
  · rw [if_neg q]
    refine look_none.2 fun k hk e => q ?_
    have h := (hm k hk).1 (by show bl (K k) = bl key; rw [e])
    obtain ⟨h1, h2⟩ := h
    subst h1
    exact ⟨hk, e⟩
namespace T
def get (t : T) (key : ByteArray) : Option T := if t.kind = 5 then (look t.key key t.ml).map t.mem else none
def tbl (t : T) (key : ByteArray) : T := (t.get key).getD zero
end T
theorem In.own {w : World} {t : T} (h : In w t) : (Lit.int .i64 t.kind).wf = true ∧ (Lit.int .i64 t.num).wf = true ∧ t.txt.size ≤ reach47 ∧ t.ll ≤ reach47 ∧ t.ml ≤ reach47 ∧ t.ll ≤ t.cl ∧ t.ml ≤ t.cm := by
  cases t with
  | no => exact h.elim
  | mk k is n s xl ll cl L xm ml cm K M => exact ⟨h.1.1, h.1.2.1, h.1.2.2.1, h.1.2.2.2.1, h.1.2.2.2.2.1, h.1.2.2.2.2.2.1, h.1.2.2.2.2.2.2.1⟩
theorem In.elms {w : World} {t : T} (h : In w t) {i : Nat} (hi : i < t.ll) : (∃ a, t.xl = some a ∧ At6 w a (i * 6) (t.elm i)) ∧ In w (t.elm i) := by
  cases t with
  | no => exact h.elim
  | mk k is n s xl ll cl L xm ml cm K M => exact h.2.1 i hi
theorem In.mems {w : World} {t : T} (h : In w t) {i : Nat} (hi : i < t.ml) : (∃ a, t.xm = some a ∧ w.cell? (a.add (i * 7)) = some (.string (t.key i)) ∧ At6 w a (i * 7 + 1) (t.mem i)) ∧ (t.key i).size ≤ reach47 ∧ In w (t.mem i) := by
  cases t with
  | no => exact h.elim
  | mk k is n s xl ll cl L xm ml cm K M => exact h.2.2 i hi
theorem Rises.rise {t : T} (h : Rises t) : Rise t.ml fun i => bl (t.key i) := by
  cases t with
  | no => exact fun i hi => absurd hi (Nat.not_lt_zero _)
  | mk k is n s xl ll cl L xm ml cm K M => exact h.1
theorem In.mem {w : World} {t : T} (h : In w t) {i : Nat} (hi : i < t.ml) : In w (t.mem i) := by
  cases t with
  | no => exact absurd hi (Nat.not_lt_zero _)
  | mk k is n s xl ll cl L xm ml cm K M => exact (h.2.2 i hi).2.2
theorem Rises.mem {t : T} (h : Rises t) {i : Nat} (hi : i < t.ml) : Rises (t.mem i) := by
  cases t with
  | no => exact absurd hi (Nat.not_lt_zero _)
  | mk k is n s xl ll cl L xm ml cm K M => exact h.2.2 i hi
theorem Rises.zero : Rises T.zero := ⟨fun i h => absurd h (Nat.not_lt_zero _), fun i h => absurd h (Nat.not_lt_zero _), fun i h => absurd h (Nat.not_lt_zero _)⟩
theorem T.get_mem {t x : T} {key : ByteArray} (h : t.get key = some x) : ∃ i, i < t.ml ∧ x = t.mem i := by
  unfold T.get at h
  split at h
  · cases e : look t.key key t.ml with
    | none => rw [e] at h; cases h
    | some k =>
      rw [e] at h
      injection h with h
      exact ⟨k, (look_some e).1, h.symm⟩
  · cases h
theorem In.get {w : World} {t x : T} {key : ByteArray} (h : In w t) (hg : t.get key = some x) : In w x := by
  obtain ⟨i, hi, rfl⟩ := T.get_mem hg
  exact h.mem hi
theorem In.tbl {w : World} {t : T} {key : ByteArray} (h : In w t) : In w (t.tbl key) := by
  unfold T.tbl
  cases e : t.get key with
  | none => exact In.zero w
  | some x => exact h.get e
theorem Rises.tbl {t : T} {key : ByteArray} (h : Rises t) : Rises (t.tbl key) := by
  unfold T.tbl
  cases e : t.get key with
  | none => exact Rises.zero
  | some x => obtain ⟨i, hi, rfl⟩ := T.get_mem e; exact h.mem hi
end Go.Proofs.YtlfplmlehbomlaaDoor.P
end

section
namespace Go.Proofs.YtlfplmlehbomlaaDoor.P
set_option linter.unusedVariables false
set_option linter.unusedSimpArgs false
open Go.ChangeShapes Go.WideShapes Go.RowKit Go.Deep Go.Joins
section
variable {H : Type} {enc : TypeId × Value → H} {P : Program} {W : World} {held : Bool}
structure VT (P : Program) (tV tL tM tMs tI tB tS : TypeId) (fv fm : Array Field) : Prop where
  v : P.underlying tV = some (.struct fv)
  m : P.underlying tM = some (.struct fm)
  l : P.underlying tL = some (.slice tV)
  ms : P.underlying tMs = some (.slice tM)
  i : P.underlying tI = some (.int .i64)
  b : P.underlying tB = some .bool
  s : P.underlying tS = some .string
  fv6 : fv.toList.map (fun f => (f.type, f.offset)) = [(tI, 0), (tB, 1), (tI, 2), (tS, 3), (tL, 4), (tMs, 5)]
  fm2 : fm.toList.map (fun f => (f.type, f.offset)) = [(tS, 0), (tV, 1)]
  cv : P.cellsOf tV = 6
  cm : P.cellsOf tM = 7
  ci : P.cellsOf tI = 1
  cb : P.cellsOf tB = 1
  cs : P.cellsOf tS = 1
  cl : P.cellsOf tL = 1
  cms : P.cellsOf tMs = 1
  bv : 0 < P.bytesOf tV
  bm : 0 < P.bytesOf tM
theorem weightsAll_mem {e : TypeId} {x : Nat} {d : DataW H} : ∀ {ds : List (DataW H)}, d ∈ ds → x ∈ d.weights P e → x ∈ DataW.weightsAll P e ds
  | [], h, _ => by cases h
  | a :: r, h, hx => by
    unfold DataW.weightsAll
    rcases List.mem_cons.1 h with rfl | h
    · exact List.mem_append_left _ hx
    · exact List.mem_append_right _ (weightsAll_mem h hx)
theorem weightsEach_mem {t : TypeId} {x : Nat} {d : DataW H} : ∀ {ts : List TypeId} {ds : List (DataW H)} {j : Nat}, ts[j]? = some t → ds[j]? = some d → x ∈ d.weights P t → x ∈ DataW.weightsEach P ts ds
  | [], _, j, h, _, _ => by cases h
  | _ :: _, [], j, _, h, _ => by cases h
  | a :: ts, b :: ds, 0, h1, h2, hx => by
    unfold DataW.weightsEach
    injection h1 with h1; injection h2 with h2; subst h1; subst h2
    exact List.mem_append_left _ hx
  | a :: ts, b :: ds, j + 1, h1, h2, hx => by
    unfold DataW.weightsEach
    exact List.mem_append_right _ (weightsEach_mem (ts := ts) (ds := ds) (j := j) h1 h2 hx)
theorem fld {fs : Array Field} {L : List (TypeId × Nat)} (h : fs.toList.map (fun f => (f.type, f.offset)) = L) {i : Nat} {p : TypeId × Nat} (hp : L[i]? = some p) : ∃ f, fs[i]? = some f ∧ f.type = p.1 ∧ f.offset = p.2 := by
  subst h
  rw [List.getElem?_map] at hp
  cases e : fs.toList[i]? with
  | none => rw [e] at hp; cases hp
  | some f =>
    rw [e] at hp
    injection hp with hp
    subst hp
    exact ⟨f, by rw [← e]; exact Array.getElem?_toList.symm, rfl, rfl⟩
theorem fldN {fs : Array Field} {L : List (TypeId × Nat)} (h : fs.toList.map (fun f => (f.type, f.offset)) = L) : fs.size = L.length := by
  subst h; simp
theorem six {cs : List Value} (h : cs.length = 6) : ∃ a b c d e f, cs = [a, b, c, d, e, f] := by
  match cs, h with
  | [a, b, c, d, e, f], _ => exact ⟨a, b, c, d, e, f, rfl⟩
theorem seven {cs : List Value} (h : cs.length = 7) : ∃ k a b c d e f, cs = [k, a, b, c, d, e, f] := by
  match cs, h with
  | [k, a, b, c, d, e, f], _ => exact ⟨k, a, b, c, d, e, f, rfl⟩
variable {tV tL tM tMs tI tB tS : TypeId} {fv fm : Array Field}
theorem T.cells_eq (t : T) (a : Addr) (o : Nat) (w : World) (cs : List Value) (hc : cs = ((List.range 6).map fun j => mkc () (t.sc j))) (h : ∀ i, i < 6 → w.cell? (a.add (o + i)) = cs[i]?) : At6 w a o t := by
  subst hc
  intro i hi
  rw [h i hi, List.getElem?_map, List.getElem?_range hi]
  rfl
theorem open_T (V : VT P tV tL tM tMs tI tB tS fv fm) : ∀ (fuel : Nat) (cs : List Value) (d : DataW H) (ps : List MemPlace), DataW.trod enc P W 0 (fun _ => true) held fuel tV cs = some (d, ps) →
    (∀ x ∈ d.weights P tV, x ≤ reach47) → ∃ t : T, cs = ((List.range 6).map fun j => mkc () (t.sc j)) ∧ In W t := by
  intro fuel
  induction fuel using Nat.strongRecOn with
  | ind fuel ih =>
    intro cs d ps h hw
    obtain ⟨xs, n, rfl, hx, hlen, hxl, hf⟩ := DataW.trod_struct V.v h
    rw [V.cv] at hlen
    obtain ⟨v0, v1, v2, v3, v4, v5, rfl⟩ := six hlen
    rw [fldN V.fv6] at hxl
    obtain ⟨hd, _⟩ := Prod.mk.inj hx
    have part : ∀ (i : Nat) (p : TypeId × Nat), [(tI, 0), (tB, 1), (tI, 2), (tS, 3), (tL, 4), (tMs, 5)][i]? = some p → ∃ y : DataW H × List MemPlace, DataW.trod enc P W 0 (fun _ => true) held n p.1 (([v0, v1, v2, v3, v4, v5].drop p.2).take (P.cellsOf p.1)) = some y ∧ ∀ x ∈ y.1.weights P p.1, x ≤ reach47 := by
      intro i p hp
      obtain ⟨f, h1, h2, h3⟩ := fld V.fv6 hp
      have h4 := hf i f h1
      rw [h2, h3] at h4
      have hi : i < xs.length := by
        rw [hxl]
        have := (List.getElem?_eq_some_iff.1 hp).1
        exact this
      refine ⟨xs[i], by rw [h4]; exact List.getElem?_eq_getElem hi, fun x hx2 => hw x ?_⟩
      rw [hd]
      unfold DataW.weights
      rw [V.v]
      refine weightsEach_mem (t := p.1) (d := xs[i].1) (j := i) ?_ ?_ hx2
      · rw [List.getElem?_map, Array.getElem?_toList, h1, ← h2]; rfl
      · rw [List.getElem?_map, List.getElem?_eq_getElem hi]; rfl
    obtain ⟨y0, g0, _⟩ := part 0 _ rfl
    obtain ⟨y1, g1, _⟩ := part 1 _ rfl
    obtain ⟨y2, g2, _⟩ := part 2 _ rfl
    obtain ⟨y3, g3, w3⟩ := part 3 _ rfl
    obtain ⟨y4, g4, w4⟩ := part 4 _ rfl
    obtain ⟨y5, g5, w5⟩ := part 5 _ rfl
    simp only [V.ci, V.cb, V.cs, V.cl, V.cms, List.drop_succ_cons, List.drop_zero, List.take_succ_cons, List.take_zero] at g0 g1 g2 g3 g4 g5
    obtain ⟨z0, e0, _, q0⟩ := DataW.trod_int V.i g0
    obtain ⟨z1, e1, _⟩ := DataW.trod_bool V.b g1
    obtain ⟨z2, e2, _, q2⟩ := DataW.trod_int V.i g2
    obtain ⟨z3, e3, y3e, q3⟩ := DataW.trod_string V.s g3
    obtain ⟨rfl⟩ := List.cons.inj e0 |>.1
    obtain ⟨rfl⟩ := List.cons.inj e1 |>.1
    obtain ⟨rfl⟩ := List.cons.inj e2 |>.1
    obtain ⟨rfl⟩ := List.cons.inj e3 |>.1
    have q3 : z3.size ≤ reach47 := by
      subst y3e
      have := w3 z3.data.toList.length (by unfold DataW.weights; exact List.mem_cons_self)
      rw [Array.length_toList] at this
      exact this
    have small : ∀ {c k b : Nat}, 0 < b → c ≤ k → k * b ≤ reach47 → c ≤ reach47 := fun {c k b} h1 h2 h3 => Nat.le_trans h2 (Nat.le_trans (Nat.le_mul_of_pos_right k h1) h3)
    -- the list
    obtain ⟨xl, ll, cl, L, rfl, b1, b2, b3, b4⟩ : ∃ (xl : Option Addr) (ll cl : Nat) (L : Nat → T), v4 = .slice xl ll cl ∧ ll ≤ reach47 ∧ ll ≤ cl ∧ cl ≤ maxLen ∧ ∀ i, i < ll → (∃ a, xl = some a ∧ At6 W a (i * 6) (L i)) ∧ In W (L i) := by
      rcases DataW.trod_slice V.l g4 with ⟨h0, _⟩ | ⟨a, len, cap, elems, rest, m, rfl, hcs, hy, hb, hl, hm, hle, hel, hsp, _⟩
      · obtain ⟨rfl⟩ := List.cons.inj h0 |>.1
        exact ⟨none, 0, 0, fun _ => .no, rfl, by decide, Nat.le_refl _, by decide, fun i hi => absurd hi (Nat.not_lt_zero _)⟩
      · obtain ⟨rfl⟩ := List.cons.inj hcs |>.1
        have w4 : ∀ x ∈ y4.1.weights P tL, x ≤ reach47 := w4
        rw [hy] at w4
        unfold DataW.weights at w4
        rw [V.l] at w4
        have each : ∀ i, i < len → ∃ t : T, At6 W a (i * 6) t ∧ In W t := by
          intro i hi
          have h1 := hel i hi
          have hs : elems[i]? = some (elems[i]'(by omega)) := List.getElem?_eq_getElem (by omega)
          rw [hs, Option.bind_eq_some_iff] at h1
          obtain ⟨cs, h2, h3⟩ := h1
          rw [V.cv] at h2
          obtain ⟨_, h5, h6⟩ := World.cells?_some h2
          obtain ⟨t, h7, h8⟩ := ih m (by omega) cs (elems[i]'(by omega)).1 (elems[i]'(by omega)).2 h3 (fun x hx2 => w4 x (List.mem_cons_of_mem _ (List.mem_append_left _ (weightsAll_mem (List.mem_map.2 ⟨_, List.getElem_mem _, rfl⟩) hx2))))
          exact ⟨t, T.cells_eq t a (i * 6) W cs h7 (fun j hj => by rw [← Go.Deep.add_add]; exact h6 j hj), h8⟩
        refine ⟨some a, len, cap, fun i => if h : i < len then Classical.choose (each i h) else .no, rfl, ?_, hl, hm, fun i hi => ?_⟩
        · have h9 := w4 _ List.mem_cons_self
          exact small V.bv (by simp only [List.length_map]; omega) h9
        · simp only [dif_pos hi]
          exact ⟨⟨a, rfl, (Classical.choose_spec (each i hi)).1⟩, (Classical.choose_spec (each i hi)).2⟩
    -- the members
    obtain ⟨xm, ml, cm, K, M, rfl, d1, d2, d3, d4⟩ : ∃ (xm : Option Addr) (ml cm : Nat) (K : Nat → ByteArray) (M : Nat → T), v5 = .slice xm ml cm ∧ ml ≤ reach47 ∧ ml ≤ cm ∧ cm ≤ maxLen ∧ ∀ i, i < ml → (∃ a, xm = some a ∧ W.cell? (a.add (i * 7)) = some (.string (K i)) ∧ At6 W a (i * 7 + 1) (M i)) ∧ (K i).size ≤ reach47 ∧ In W (M i) := by
      rcases DataW.trod_slice V.ms g5 with ⟨h0, _⟩ | ⟨a, len, cap, elems, rest, m, rfl, hcs, hy, hb, hl, hm, hle, hel, hsp, _⟩
      · obtain ⟨rfl⟩ := List.cons.inj h0 |>.1
        exact ⟨none, 0, 0, fun _ => ByteArray.empty, fun _ => .no, rfl, by decide, Nat.le_refl _, by decide, fun i hi => absurd hi (Nat.not_lt_zero _)⟩
      · obtain ⟨rfl⟩ := List.cons.inj hcs |>.1
        have w5 : ∀ x ∈ y5.1.weights P tMs, x ≤ reach47 := w5
        rw [hy] at w5
        unfold DataW.weights at w5
        rw [V.ms] at w5
        have each : ∀ i, i < len → ∃ kt : ByteArray × T, (W.cell? (a.add (i * 7)) = some (.string kt.1) ∧ At6 W a (i * 7 + 1) kt.2) ∧ kt.1.size ≤ reach47 ∧ In W kt.2 := by
          intro i hi
          have h1 := hel i hi
          have hs : elems[i]? = some (elems[i]'(by omega)) := List.getElem?_eq_getElem (by omega)
          rw [hs, Option.bind_eq_some_iff] at h1
          obtain ⟨cs, h2, h3⟩ := h1
          rw [V.cm] at h2
          obtain ⟨_, h5, h6⟩ := World.cells?_some h2
          have hwm : ∀ x ∈ (elems[i]'(by omega)).1.weights P tM, x ≤ reach47 := fun x hx2 => w5 x (List.mem_cons_of_mem _ (List.mem_append_left _ (weightsAll_mem (List.mem_map.2 ⟨_, List.getElem_mem _, rfl⟩) hx2)))
          obtain ⟨us, n2, rfl, hu, _, hul, hf2⟩ := DataW.trod_struct V.m h3
          rw [hu] at hwm
          unfold DataW.weights at hwm
          simp only [V.m] at hwm
          rw [fldN V.fm2] at hul
          obtain ⟨u, a0, a1, a2, a3, a4, a5, rfl⟩ := seven h5
          have part2 : ∀ (i : Nat) (p : TypeId × Nat), [(tS, 0), (tV, 1)][i]? = some p → ∃ y : DataW H × List MemPlace, DataW.trod enc P W 0 (fun _ => true) held n2 p.1 (([u, a0, a1, a2, a3, a4, a5].drop p.2).take (P.cellsOf p.1)) = some y ∧ ∀ x ∈ y.1.weights P p.1, x ≤ reach47 := by
            intro i p hp
            obtain ⟨f, k1, k2, k3⟩ := fld V.fm2 hp
            have k4 := hf2 i f k1
            rw [k2, k3] at k4
            have hi : i < us.length := by
              rw [hul]
              exact (List.getElem?_eq_some_iff.1 hp).1
            refine ⟨us[i], by rw [k4]; exact List.getElem?_eq_getElem hi, fun x hx2 => hwm x ?_⟩
            refine weightsEach_mem (t := p.1) (d := us[i].1) (j := i) ?_ ?_ hx2
            · rw [List.getElem?_map, Array.getElem?_toList, k1, ← k2]; rfl
            · rw [List.getElem?_map, List.getElem?_eq_getElem hi]; rfl
          obtain ⟨r0, s0, ws0⟩ := part2 0 _ rfl
          obtain ⟨r1, s1, ws1⟩ := part2 1 _ rfl
          simp only [V.cs, V.cv, List.drop_succ_cons, List.drop_zero, List.take_succ_cons, List.take_zero] at s0 s1
          obtain ⟨k, ek, r0e, _⟩ := DataW.trod_string V.s s0
          obtain ⟨rfl⟩ := List.cons.inj ek |>.1
          obtain ⟨t, h7, h8⟩ := ih n2 (by omega) _ r1.1 r1.2 s1 ws1
          refine ⟨(k, t), ⟨?_, T.cells_eq t a (i * 7 + 1) W _ h7 (fun j hj => ?_)⟩, ?_, h8⟩
          · have := h6 0 (by omega)
            rw [Go.Deep.add_add] at this
            exact this
          · have := h6 (j + 1) (by omega)
            rw [Go.Deep.add_add, show i * 7 + (j + 1) = i * 7 + 1 + j by omega] at this
            exact this
          · subst r0e
            have := ws0 k.data.toList.length (by unfold DataW.weights; exact List.mem_cons_self)
            rw [Array.length_toList] at this
            exact this
        refine ⟨some a, len, cap, fun i => if h : i < len then (Classical.choose (each i h)).1 else ByteArray.empty, fun i => if h : i < len then (Classical.choose (each i h)).2 else .no, rfl, ?_, hl, hm, fun i hi => ?_⟩
        · have h9 := w5 _ List.mem_cons_self
          exact small V.bm (by simp only [List.length_map]; omega) h9
        · simp only [dif_pos hi]
          have := Classical.choose_spec (each i hi)
          exact ⟨⟨a, rfl, this.1.1, this.1.2⟩, this.2.1, this.2.2⟩
    exact ⟨.mk z0 z1 z2 z3 xl ll cl L xm ml cm K M, rfl, ⟨q0, q2, q3, b1, d1, b2, d2, b3, d3⟩, b4, d4⟩
theorem open_value (V : VT P tV tL tM tMs tI tB tS fv fm) {ts : List TypeId} {ds : List (DataW H)} {j : Nat} {v : Value} {d : DataW H} {ps : List MemPlace} {r : Reach} {b0 : Nat} (hsz : (DataW.weightsEach P ts ds).all (· ≤ reachBytes) = true) (htj : ts[j]? = some tV) (hdj : ds[j]? = some d)
    (hv : Value.okWide P W r b0 tV v) (h : DataW.Trod enc P W 0 (fun _ => true) held tV v d ps) : ∃ t : T, v = t.val ∧ In W t := by
  obtain ⟨cs, rfl, hl⟩ := okWide_struct V.v hv
  obtain ⟨fuel, hf⟩ := h
  obtain ⟨t, h1, h2⟩ := open_T V fuel _ d ps hf (fun x hx => by
    exact of_decide_eq_true (List.all_eq_true.1 hsz x (weightsEach_mem htj hdj hx)))
  refine ⟨t, ?_, h2⟩
  show Value.agg cs = .agg ((List.range 6).map fun j => mkc () (t.sc j)).toArray
  have h1 : cs.toList = _ := h1
  rw [← Array.toArray_toList (xs := cs), h1]
end
end Go.Proofs.YtlfplmlehbomlaaDoor.P
end

section
namespace Go.Proofs.YtlfplmlehbomlaaDoor.P
set_option linter.unusedVariables false
set_option linter.unusedSimpArgs false
open Go.RowKit Go.ChangeShapes Go.WideShapes Go.Proofs.YtlfplmlehbomlaaDoorW.PrintWords Go.Proofs.YtlfplmlehbomlaaDoorW.PrintLast Go.Proofs.YtlfplmlehbomlaaDoorW.PrintMore
theorem cell_lt {w : World} {a : Addr} {v : Value} (h : w.cell? a = some v) : a.block < w.heap.size := by
  unfold World.cell? at h
  cases e : w.heap[a.block]? with
  | none => rw [e] at h; simp at h
  | some o => exact (Array.getElem?_eq_some_iff.1 e).1
theorem bel_kept {w w' : World} (h : Below w.heap.size w w') : ∀ x v, w.cell? x = some v → w'.cell? x = some v := fun x v hc => (h.cell (cell_lt hc)).trans hc
theorem In.below {w w' : World} {t : T} (h : In w t) (hb : Below w.heap.size w w') : In w' t := h.mono (bel_kept hb)
theorem exec_val {P : Program} {o : Oper} {ev : Operand → Value} {w : World} {ty : TypeId} {x : Operand} {ad : Addr} {v : Value} {d : TypeDesc} (hc : w.cell? ad = some v) (hu : P.underlying ty = some d) (hd : (match d with | .struct _ | .array _ _ => false | _ => true) = true) (ho : o.op = .load ty x) (hx : ev x = .pointer (some ad)) :
    (execOp ev o).run P w = .ok (.value v) w := by
  have ha : (isAgg ty).run P w = .ok false w := by
    simp only [isAgg, Sem.run_bind, run_underlying hu, Result.andThen_ok]
    cases d <;> simp_all
  unfold execOp
  simp only [ho, hx, Instr.loadAt, Instr.sureAddr, Sem.run_bind, Sem.run_pure, Result.andThen_ok, loadVar, ha, Bool.false_eq_true, if_false, run_load, hc]
section
variable {P : Program} {ops : Array Oper} {Q : Exit → Act → World → Prop} {B O : List Nat} {wE : World} {a0 : Act} {L : List (Nat × Tmp × SV)} {A : List Ent} {i : Nat}
theorem st_at {N : Tmp} {oi : Oper} (k : Nat) (ad : Addr) {ty : TypeId} {p : Operand} {d : TypeDesc} {n : Nat} {f : Nat → SC} (hoi : ops[i]? = some oi) (hN : oi.dst = some N) (ho : oi.op = .load ty p) (hw : ∀ b G, Ons B O i b → Offs B O i b → Region.wanted oi (yielded ops (zQ a0 b (vals G L)).tmps) = true)
    (hLo : LOk L) (hL : L[k]? = some (i, N, .val (.agg (FR () n f)))) (hA : (A.all fun x => !(x.born == some i) && !(x.stored == some i)) = true) (hu : P.underlying ty = some d) (hi : (P.info? ty).map (·.size) = some n) (hdd : (match d with | .struct _ | .array _ _ => true | _ => false) = true)
    (hT : ∀ j, j < n → wE.cell? (ad.add j) = some (mkc () (f j))) (hp : ∀ b G, Ons B O i b → Offs B O i b → (zQ a0 b (vals G L)).eval p = .pointer (some ad)) : StepAt P ops Q B O (RI wE a0 L A) i :=
  st_keep k (.val (.agg (FR () n f))) hoi hN hLo hL hA (fun b G w K hB hon hoff hR hK =>
    event_step (hw b G hon hoff) (exec_load_at (fun j hj => bel_kept hB _ _ (hT j hj)) hu hi hdd ho (hp b G hon hoff)) (hK _ (Below.refl _ _)))
theorem st_at1 {N : Tmp} {oi : Oper} (k : Nat) (ad : Addr) (v : Value) {ty : TypeId} {p : Operand} {d : TypeDesc} (hoi : ops[i]? = some oi) (hN : oi.dst = some N) (ho : oi.op = .load ty p) (hw : ∀ b G, Ons B O i b → Offs B O i b → Region.wanted oi (yielded ops (zQ a0 b (vals G L)).tmps) = true)
    (hLo : LOk L) (hL : L[k]? = some (i, N, .val v)) (hA : (A.all fun x => !(x.born == some i) && !(x.stored == some i)) = true) (hu : P.underlying ty = some d) (hdd : (match d with | .struct _ | .array _ _ => false | _ => true) = true)
    (hT : wE.cell? ad = some v) (hp : ∀ b G, Ons B O i b → Offs B O i b → (zQ a0 b (vals G L)).eval p = .pointer (some ad)) : StepAt P ops Q B O (RI wE a0 L A) i :=
  st_keep k (.val v) hoi hN hLo hL hA (fun b G w K hB hon hoff hR hK =>
    event_step (hw b G hon hoff) (exec_val (bel_kept hB _ _ hT) hu hdd ho (hp b G hon hoff)) (hK _ (Below.refl _ _)))
end
section
variable {P : Program} {t : TypeId} {k : IntKind} {r : Bool}
theorem rb_lss {x y : Int} (h : decide (x < y) = r) (w : World) (p q : Operand) : (do eqGuard .lss t p q (.int k x) (.int k y); binOp .lss t (.int k x) (.int k y) : Sem Value).run P w = .ok (.bool r) w := by subst h; go_simp
theorem rb_gtr {x y : Int} (h : decide (y < x) = r) (w : World) (p q : Operand) : (do eqGuard .gtr t p q (.int k x) (.int k y); binOp .gtr t (.int k x) (.int k y) : Sem Value).run P w = .ok (.bool r) w := by subst h; go_simp
theorem rb_geq {x y : Int} (h : decide (y ≤ x) = r) (w : World) (p q : Operand) : (do eqGuard .geq t p q (.int k x) (.int k y); binOp .geq t (.int k x) (.int k y) : Sem Value).run P w = .ok (.bool r) w := by subst h; go_simp
theorem rb_eql {x y : Int} (h : (x == y) = r) (w : World) (p q : Operand) : (do eqGuard .eql t p q (.int k x) (.int k y); binOp .eql t (.int k x) (.int k y) : Sem Value).run P w = .ok (.bool r) w := by subst h; go_simp
theorem rb_neq {x y : Int} (h : (x != y) = r) (w : World) (p q : Operand) : (do eqGuard .neq t p q (.int k x) (.int k y); binOp .neq t (.int k x) (.int k y) : Sem Value).run P w = .ok (.bool r) w := by subst h; go_simp
theorem guard_bool {op : BinOp} {x y : Bool} (p q : Operand) : eqGuard op t p q (.bool x) (.bool y) = pure () := by unfold eqGuard; split <;> rfl
theorem guard_string {op : BinOp} {x y : ByteArray} (p q : Operand) : eqGuard op t p q (.string x) (.string y) = pure () := by unfold eqGuard; split <;> rfl
theorem run_equalIn_bool (d : Nat) {x y : Bool} (hu : P.underlying t = some .bool) (w : World) : (Op.equalIn (d + 1) t (.bool x) (.bool y)).run P w = .ok (x == y) w := by simp [Op.equalIn, run_underlying hu]
theorem run_equal_bool {x y : Bool} (hu : P.underlying t = some .bool) (w : World) : (Op.equal t (.bool x) (.bool y)).run P w = .ok (x == y) w := run_equalIn_bool 9999 hu w
theorem bin_beql {x y : Bool} (hu : P.underlying t = some .bool) (w : World) : (binOp .eql t (.bool x) (.bool y)).run P w = .ok (.bool (x == y)) w := by
  show (do pure (.bool (← Op.equal t (.bool x) (.bool y))) : Sem Value).run P w = _
  rw [Sem.run_bind, run_equal_bool hu]; rfl
theorem rb_beql {x y : Bool} (hu : P.underlying t = some .bool) (h : (x == y) = r) (w : World) (p q : Operand) : (do eqGuard .eql t p q (.bool x) (.bool y); binOp .eql t (.bool x) (.bool y) : Sem Value).run P w = .ok (.bool r) w := by
  subst h; rw [guard_bool]; exact bin_beql hu w
theorem lists_eq {x y : ByteArray} : (x.toList == y.toList) = decide (x = y) := by
  rw [Bool.eq_iff_iff, beq_iff_eq, decide_eq_true_iff, Lib.toList_data, Lib.toList_data]
  exact ⟨fun h => bl_inj h, fun h => by rw [h]⟩
theorem rb_seql {x y : ByteArray} (h : decide (x = y) = r) (w : World) (p q : Operand) : (do eqGuard .eql t p q (.string x) (.string y); binOp .eql t (.string x) (.string y) : Sem Value).run P w = .ok (.bool r) w := by
  subst h; rw [guard_string, binOp_string_eql, lists_eq]; rfl
theorem less_cmp : ∀ (a b : List UInt8), Op.bytesLess a b = decide (cmpB a b < 0)
  | [], [] => rfl
  | [], _ :: _ => rfl
  | _ :: _, [] => rfl
  | a :: l, b :: m => by
    rw [cmpB_cons]
    unfold Op.bytesLess
    by_cases h1 : a < b
    · simp [h1]
    · by_cases h2 : b < a
      · have h3 : a ≠ b := fun e => by subst e; exact h1 h2
        simp [h1, h2, h3]
      · have e := u8_eq h1 h2
        subst e
        simp [h1, less_cmp l m]
theorem rb_sgeq {x y : ByteArray} (h : (!decide (cmpB (bl x) (bl y) < 0)) = r) (w : World) (p q : Operand) : (do eqGuard .geq t p q (.string x) (.string y); binOp .geq t (.string x) (.string y) : Sem Value).run P w = .ok (.bool r) w := by
  subst h; rw [guard_string, binOp_string_geq, Lib.toList_data, Lib.toList_data, less_cmp]; rfl
theorem rb_add {x y z : Int} (h : k.wrap (x + y) = z) (w : World) (p q : Operand) : (do eqGuard .add t p q (.int k x) (.int k y); binOp .add t (.int k x) (.int k y) : Sem Value).run P w = .ok (.int k z) w := by subst h; go_simp
theorem rb_sub {x y z : Int} (h : k.wrap (x - y) = z) (w : World) (p q : Operand) : (do eqGuard .sub t p q (.int k x) (.int k y); binOp .sub t (.int k x) (.int k y) : Sem Value).run P w = .ok (.int k z) w := by subst h; go_simp
theorem exec_lenL {o : Oper} {ev : Operand → Value} {w : World} {x : Operand} {ty e : TypeId} {a : Option Addr} {n c : Nat} (hu : P.underlying ty = some (.slice e)) (ho : o.op = .call { callee := .builtin .len, args := #[x], argTypes := #[ty] }) (hx : ev x = .slice a n c) : (execOp ev o).run P w = .ok (.value (.int .i64 (n : Int))) w := by
  unfold execOp
  simp only [ho, resolve, invoke, builtin, Builtin.len_, Sem.run_bind, Sem.run_pure, Result.andThen_ok, List.map_toArray, List.map_cons, List.map_nil, hx, run_underlying hu]
  simp [run_underlying hu]
  rfl
theorem exec_lenS {o : Oper} {ev : Operand → Value} {w : World} {x : Operand} {ty : TypeId} {s : ByteArray} (hu : P.underlying ty = some .string) (ho : o.op = .call { callee := .builtin .len, args := #[x], argTypes := #[ty] }) (hx : ev x = .string s) : (execOp ev o).run P w = .ok (.value (.int .i64 (s.size : Int))) w := by
  unfold execOp
  simp only [ho, resolve, invoke, builtin, Builtin.len_, Sem.run_bind, Sem.run_pure, Result.andThen_ok, List.map_toArray, List.map_cons, List.map_nil, hx, run_underlying hu]
  simp [run_underlying hu]
  rfl
theorem index_sl {ty e : TypeId} {xl : Option Addr} {a : Addr} {n c m : Nat} {i : Nat} (hu : P.underlying ty = some (.slice e)) (hm : (P.info? e).map (·.size) = some m) (hx : xl = some a) (hi : i < n) (w : World) : (Instr.indexAt ty (.slice xl n c) (.int .i64 (i : Int))).run P w = .ok (.pointer (some (a.add (i * m)))) w := by
  subst hx
  obtain ⟨ie, hie, hs⟩ : ∃ ie, P.info? e = some ie ∧ ie.size = m := by
    cases he : P.info? e with
    | none => rw [he] at hm; cases hm
    | some ie => rw [he] at hm; exact ⟨ie, rfl, Option.some.inj hm⟩
  have hti : (typeInfo e).run P w = .ok ie w := by simp [typeInfo, hie]
  have h1 : (0 : Int) ≤ (i : Int) := by omega
  have h2 : (i : Int) < (n : Int) := by omega
  have h3 : (i : Int).toNat = i := by omega
  have hz : (Go.sizeOf e).run P w = .ok m w := by simp [Go.sizeOf, hti, hs]
  go_simp
theorem ru_not {x : Bool} (w : World) : (Op.unary .not (.bool x)).run P w = .ok (.bool (!x)) w := by go_simp
end
def lsc (l : List SC) (j : Nat) : SC := l.getD j (.b false)
def msc (k : ByteArray) (t : T) : Nat → SC
  | 0 => .s k
  | j + 1 => t.sc j
section
variable {P : Program} {ops : Array Oper} {Q : Exit → Act → World → Prop} {B O : List Nat} {wE : World} {a0 : Act} {L : List (Nat × Tmp × SV)} {A : List Ent} {i : Nat}
theorem st_callRB {N : Tmp} {oi : Oper} (k r : Nat) (x : Ent) (v : SV) {f : FuncId} {fn : Func} {asx : Array Operand} {ts : Array TypeId} (args : (Nat → Nat) → Array Value) (hx : A[r]? = some x) (hoi : ops[i]? = some oi) (hN : oi.dst = some N) (hop : oi.op = .call { callee := .value (.func f), args := asx, argTypes := ts })
    (hw : ∀ b G, Ons B O i b → Offs B O i b → Region.wanted oi (yielded ops (zQ a0 b (vals G L)).tmps) = true) (hLo : LOk L) (hL : L[k]? = some (i, N, v)) (hA : (A.all fun x => !(x.born == some i) && !(x.stored == some i)) = true)
    (hbo : onB B O i x.born = true) (hst : offB B O i x.stored = true) (hf : P.funcs[f]? = some fn) (hname : (fn.name == "runtime.NumGoroutine") = false) (hbd : fn.body.isSome = true) (hargs : ∀ b G, Ons B O i b → Offs B O i b → asx.map (zQ a0 b (vals G L)).eval = args G)
    (hc : ∀ G w, Below wE.heap.size wE w → Row w (x.ad G) x.k x.n x.f0 x.t → Calls P f (args G) w fun e w' => e = .returned (v.at G) ∧ Below w.heap.size w w') : StepAt P ops Q B O (RI wE a0 L A) i :=
  st_keep k v hoi hN hLo hL hA (fun b G w K hB hon hoff hR hK => by
    have h := (hR x (List.mem_of_getElem? hx) (onB_is hbo hon)).2
    have e : x.f b = x.f0 := by unfold Ent.f; rw [offB_is hst hoff]; rfl
    rw [e] at h
    exact goes_ hf hname hbd (args G) (hw b G hon hoff) rfl hop (hargs b G hon hoff) ((hc G w hB h).mono (by
      rintro e w' ⟨rfl, hb⟩
      exact ⟨_, rfl, hK _ hb⟩)))
theorem goesV_ {oi : Oper} {N : Option Tmp} {a : Act} {w : World} {K : Act → World → Prop} {f : FuncId} {fn : Func} {xo : Operand} {asx : Array Operand} {ts : Array TypeId} (hf : P.funcs[f]? = some fn) (hname : (fn.name == "runtime.NumGoroutine") = false) (hb : fn.body.isSome = true) (args caps : Array Value)
    (hw : Region.wanted oi (yielded ops a.tmps) = true) (hN : oi.dst = N) (hop : oi.op = .call { callee := .value xo, args := asx, argTypes := ts }) (hfx : a.eval xo = .func (.func f) #[] caps) (hargs : asx.map a.eval = args)
    (h : Calls P f (args ++ caps) w fun e w' => ∃ v, e = .returned v ∧ K (a.put N v) w') : if Region.wanted oi (yielded ops a.tmps) = true then Oper.wp P oi a w K Q else K (a.put N undef) w := by
  refine call_ f (args ++ caps) hw hN ?_ h
  have he := enters_ hf hname hb (args ++ caps) w
  unfold execOp
  simp [hop, resolve, Deferred.ofValue, invoke, hfx, hargs, he]
theorem st_callV {N : Tmp} {oi : Oper} (k : Nat) (v : Value) {f : FuncId} {fn : Func} {xo : Operand} {asx : Array Operand} {ts : Array TypeId} (args caps : Array Value) (hoi : ops[i]? = some oi) (hN : oi.dst = some N) (hop : oi.op = .call { callee := .value xo, args := asx, argTypes := ts }) (hw : ∀ b G, Ons B O i b → Offs B O i b → Region.wanted oi (yielded ops (zQ a0 b (vals G L)).tmps) = true)
    (hLo : LOk L) (hL : L[k]? = some (i, N, .val v)) (hA : (A.all fun x => !(x.born == some i) && !(x.stored == some i)) = true)
    (hf : P.funcs[f]? = some fn) (hname : (fn.name == "runtime.NumGoroutine") = false) (hbd : fn.body.isSome = true) (hfx : ∀ b G, Ons B O i b → Offs B O i b → (zQ a0 b (vals G L)).eval xo = .func (.func f) #[] caps) (hargs : ∀ b G, Ons B O i b → Offs B O i b → asx.map (zQ a0 b (vals G L)).eval = args)
    (hc : ∀ w, Below wE.heap.size wE w → Calls P f (args ++ caps) w fun e w' => e = .returned v ∧ Below w.heap.size w w') : StepAt P ops Q B O (RI wE a0 L A) i :=
  st_keep k (.val v) hoi hN hLo hL hA (fun b G w K hB hon hoff hR hK => goesV_ hf hname hbd args caps (hw b G hon hoff) rfl hop (hfx b G hon hoff) (hargs b G hon hoff) ((hc w hB).mono (by
    rintro e w' ⟨rfl, hb⟩
    exact ⟨_, rfl, hK _ hb⟩)))
theorem exec_makeFunc {o : Oper} {ev : Operand → Value} {w : World} {f : Fn} {x : Operand} {v : Value} (ho : o.op = .makeFunc f #[] #[x]) (hx : ev x = v) (h : (Instr.makeFunc f #[] #[v]).run P w = .ok (.func f #[] #[v]) w) : (execOp ev o).run P w = .ok (.value (.func f #[] #[v])) w := by
  unfold execOp
  simp only [ho, List.map_toArray, List.map_cons, List.map_nil, hx]
  rw [Sem.run_bind, h]
  rfl
theorem b_tmp2 {fn : Func} {R : Ending → World → Prop} {p q : Tmp} {a : Act} {w : World} {v u : Value} (h : fn.results = #[.tmp p, .tmp q]) (hd : a.defers = []) (hp : a.eval (.tmp p) = v) (hq : a.eval (.tmp q) = u) (hR : R (.returned (.tuple #[v, u])) w) : bodyPost P fn R .ret a w := by
  refine ⟨hd, .tuple #[v, u], ?_, hR⟩
  have hp' : a.tmps[p]?.getD undef = v := by rw [← Array.getD_eq_getD_getElem?]; exact hp
  have hq' : a.tmps[q]?.getD undef = u := by rw [← Array.getD_eq_getD_getElem?]; exact hq
  simp [results, h, hp', hq']
theorem zM {a : Act} {w : World} {id : Nat} (h : Q .ret a w) : Exit.inBlock id Q .ret a w := h
end
theorem sl_keep {a : Act} {sz : Nat} {S S' : List (Tmp × Value)} (h : Sl a sz S) (is : List Nat) (he : (is.map fun i => S[i]?) = S'.map some) : Sl a sz S' := by
  refine ⟨h.1, h.2.1, fun e hm => ?_⟩
  have h1 : some e ∈ S'.map some := List.mem_map.2 ⟨e, hm, rfl⟩
  rw [← he] at h1
  obtain ⟨i, _, h2⟩ := List.mem_map.1 h1
  exact h.2.2 e (List.mem_of_getElem? h2)
theorem held_keep {wE w : World} {R R' : List RowD} (h : Held wE w R) (n : Nat) (he : R.take n = R') : Held wE w R' := by
  subst he
  refine ⟨h.1, fun r hr => h.2.1 r (List.mem_of_mem_take hr), ?_⟩
  exact h.2.2.sublist (List.Sublist.map _ (List.take_sublist n R))
end Go.Proofs.YtlfplmlehbomlaaDoor.P
end

section
namespace Go.Proofs.YtlfplmlehbomlaaDoor.P
set_option linter.unusedVariables false
set_option linter.unusedSimpArgs false
namespace T
def empty : T := .mk 5 false 0 ByteArray.empty none 0 0 (fun _ => .no) none 0 0 (fun _ => ByteArray.empty) (fun _ => .no)
theorem get_kind {t : T} {key : ByteArray} (h : t.kind ≠ 5) : t.get key = none := by unfold get; rw [if_neg h]
end T
end Go.Proofs.YtlfplmlehbomlaaDoor.P
end

section
namespace Go.Proofs.YtlfplmlehbomlaaDoor.P
set_option linter.unusedVariables false
set_option linter.unusedSimpArgs false
def allB (p : Nat → Bool) : Nat → Bool
  | 0 => true
  | n + 1 => allB p n && p n
theorem allB_is {p : Nat → Bool} : ∀ {n : Nat}, allB p n = true ↔ ∀ i, i < n → p i = true
  | 0 => ⟨fun _ i h => absurd h (Nat.not_lt_zero _), fun _ => rfl⟩
  | n + 1 => by
    show (allB p n && p n) = true ↔ _
    rw [Bool.and_eq_true, allB_is]
    constructor
    · rintro ⟨h1, h2⟩ i hi
      by_cases e : i = n
      · subst e; exact h2
      · exact h1 i (by omega)
    · intro h; exact ⟨fun i hi => h i (by omega), h n (by omega)⟩
theorem allB_no {p : Nat → Bool} {n i : Nat} (hi : i < n) (h : p i = false) : allB p n = false := by
  cases e : allB p n with
  | false => rfl
  | true => rw [allB_is.1 e i hi] at h; cases h
def upB (K : Nat → ByteArray) (i : Nat) : Bool := i == 0 || decide (cmpB (bl (K (i - 1))) (bl (K i)) < 0)
def risesB : T → Bool
  | .no => true
  | .mk _ _ _ _ _ ll _ L _ ml _ K M => allB (fun i => upB K i && risesB (M i)) ml && allB (fun i => risesB (L i)) ll
theorem risesB_eq {w : World} {t : T} (h : In w t) : risesB t = (allB (fun i => upB t.key i && risesB (t.mem i)) t.ml && allB (fun i => risesB (t.elm i)) t.ll) := by
  cases t with
  | no => exact h.elim
  | mk k is n s xl ll cl L xm ml cm K M => rfl
theorem risesB_is : ∀ {t : T}, risesB t = true → Rises t := by
  intro t
  induction t with
  | no => exact fun _ => trivial
  | mk k is n s xl ll cl L xm ml cm K M ihL ihM =>
    intro h
    have h : (allB (fun i => upB K i && risesB (M i)) ml && allB (fun i => risesB (L i)) ll) = true := h
    rw [Bool.and_eq_true, allB_is, allB_is] at h
    obtain ⟨h1, h2⟩ := h
    refine ⟨fun i hi => ?_, fun i hi => ihL i (h2 i hi), fun i hi => ihM i ?_⟩
    · have := h1 (i + 1) hi
      rw [Bool.and_eq_true] at this
      have h3 := this.1
      unfold upB at h3
      simpa using h3
    · have := h1 i hi
      rw [Bool.and_eq_true] at this
      exact this.2
def iterW (f : Nat → Int → Int) (n : Nat) : Nat → Int → Int
  | 0, l => l
  | k + 1, l => if 0 ≤ l then iterW f n k (f (n - (k + 1)) l) else l
def weigh : T → Int → Int → Int
  | .no, _, _ => 0
  | .mk _ _ _ s _ ll _ L _ ml _ K M, l, d =>
    if d = 0 then -1 else
    iterW (fun i x => weigh (M i) (IntKind.i64.wrap (x - (K i).size)) (IntKind.i64.wrap (d - 1))) ml ml
      (iterW (fun i x => weigh (L i) x (IntKind.i64.wrap (d - 1))) ll ll (IntKind.i64.wrap (IntKind.i64.wrap (l - 1) - s.size)))
theorem weigh_eq {w : World} {t : T} (h : In w t) (l d : Int) : weigh t l d = if d = 0 then -1 else
    iterW (fun i x => weigh (t.mem i) (IntKind.i64.wrap (x - (t.key i).size)) (IntKind.i64.wrap (d - 1))) t.ml t.ml
      (iterW (fun i x => weigh (t.elm i) x (IntKind.i64.wrap (d - 1))) t.ll t.ll (IntKind.i64.wrap (IntKind.i64.wrap (l - 1) - t.txt.size))) := by
  cases t with
  | no => exact h.elim
  | mk k is n s xl ll cl L xm ml cm K M => rfl
def greatB (t : T) : Bool := decide (weigh t 4096 60 < 0) || !risesB t
theorem greatB_not {t : T} (h : greatB t = false) : Rises t := by
  unfold greatB at h
  rw [Bool.or_eq_false_iff] at h
  exact risesB_is (by simpa using h.2)
def lowK (K : Nat → ByteArray) (key : ByteArray) : Nat → Nat
  | 0 => 0
  | n + 1 => if cmpB (bl (K n)) (bl key) < 0 then n + 1 else lowK K key n
theorem lowK_cut {K : Nat → ByteArray} {key : ByteArray} {i : Nat} : ∀ {n : Nat}, Cut n (fun k => bl (K k)) (bl key) i i → lowK K key n = i
  | 0, ⟨_, h, _, _⟩ => by unfold lowK; omega
  | n + 1, ⟨h1, h2, h3, h4⟩ => by
    unfold lowK
    by_cases e : i = n + 1
    · subst e
      rw [if_pos (h3 n (by omega))]
    · rw [if_neg (h4 n (by omega) (by omega))]
      exact lowK_cut ⟨h1, by omega, h3, fun k hk hk2 => h4 k hk (by omega)⟩
end Go.Proofs.YtlfplmlehbomlaaDoor.P
end

section
namespace Go.Proofs.YtlfplmlehbomlaaDoor.P
set_option linter.unusedVariables false
set_option linter.unusedSimpArgs false
open Go.RowKit Go.ChangeShapes Go.WideShapes Go.Proofs.YtlfplmlehbomlaaDoorW.PrintWords Go.Proofs.YtlfplmlehbomlaaDoorW.PrintLast Go.Proofs.YtlfplmlehbomlaaDoorW.PrintMore
noncomputable def fsOf (t : TypeId) : Array Field := match Tryd.prog.underlying t with | some (.struct fs) => fs | _ => #[]
theorem vt : VT Tryd.prog 25 22 36 23 3 4 9 (fsOf 25) (fsOf 36) := by
  have e1 := Tryd.underlying25
  have e2 := Tryd.underlying36
  exact ⟨by unfold fsOf; rw [e1], by unfold fsOf; rw [e2], Tryd.underlying22, Tryd.underlying23, Tryd.underlying3, Tryd.underlying4, Tryd.underlying9, by unfold fsOf; rw [e1]; rfl, by unfold fsOf; rw [e2]; rfl,
    by kernel_rfl, by kernel_rfl, by kernel_rfl, by kernel_rfl, by kernel_rfl, by kernel_rfl, by kernel_rfl, by decide +kernel, by decide +kernel⟩
theorem cmpstr_calls (a b : ByteArray) (w : World) : Calls Tryd.prog 41 #[.string a, .string b] w fun e w' => e = .returned (.int .i64 (cmpB (bl a) (bl b))) ∧ Below w.heap.size w w' := by
  go_enter Tryd.func41, Tryd.ntmps41
  go_wp2
  rw [run_callFunc_extern Tryd.func44 (by kernel_rfl) (by kernel_rfl) (by kernel_rfl) (e := Extern.BytealgCompare.compare) (by kernel_rfl), Lib.run_compareString]
  simp only [Result.andThen]
  rw [Oper.upon_value]
  go_wp2
  go_ret
  exact ⟨rfl, Below.refl _ _⟩
theorem compare_calls (a b : ByteArray) (w : World) : Calls Tryd.prog 35 #[.string (a), .string (b)] w fun e w' => e = .returned (.int .i64 (cmpB (bl a) (bl b))) ∧ Below w.heap.size w w' := by
  refine enter_ 8 Tryd.func35 rfl rfl (fun a0 hS => ?_)
  have HS0 : Sl a0 8 [(0, .string (a)), (1, .string (b))] := hS
  have HH0 : Held w w [] := Held.first w
  clear hS
  refine wp_seq ?_
  have hLo : LOk [(0, 4, .val (.int .i64 (0)))] := lok (by rfl) (by rfl)
  refine zK (wE := w) (sz := 8) (n := 1) [0] [(0, .val (.string (a))), (1, .val (.string (b))), (4, .val (.int .i64 (0)))] [(0, 4, .val (.int .i64 (0)))] [] rfl (by rfl) HH0 rfl rfl hLo rfl HS0 (slS 0 rfl rfl (slS 1 rfl rfl (slL 0 (d := 0) rfl (trivial)))) ?_ ?_
  · show ∀ i ∈ [0], _
    refine zA (zC 0 _ rfl rfl hLo rfl rfl (fun _ _ _ _ => rfl) (fun b G w hb ho => zD (.inr rfl) (rfl))) ?_
    exact zF
  clear hLo
  intro G a1 w1 hS hH
  have HS1 : Sl a1 8 [(0, .string (a)), (1, .string (b)), (4, .int .i64 (0))] := hS
  have HH1 : Held w w1 [] := hH
  clear hS hH HS0 HH0
  refine then_ ?_
  refine wp_seq ?_
  have hLo : LOk [(0, 5, .val (.string (a))), (1, 6, .val (.string (b))), (2, 7, .val (.int .i64 (cmpB (bl (a)) (bl (b))))), (3, 4, .val (.int .i64 (cmpB (bl (a)) (bl (b)))))] := lok (by rfl) (by rfl)
  refine zK (wE := w) (sz := 8) (n := 4) [0, 1, 3, 7] [(0, .val (.string (a))), (1, .val (.string (b))), (4, .val (.int .i64 (cmpB (bl (a)) (bl (b)))))] [(0, 5, .val (.string (a))), (1, 6, .val (.string (b))), (2, 7, .val (.int .i64 (cmpB (bl (a)) (bl (b))))), (3, 4, .val (.int .i64 (cmpB (bl (a)) (bl (b)))))] [] rfl (by rfl) HH1 rfl rfl hLo rfl HS1 (slS 0 rfl rfl (slS 1 rfl rfl (slL 3 (d := 3) rfl (trivial)))) ?_ ?_
  · show ∀ i ∈ [0, 1, 2, 3], _
    refine zA (zC 0 _ rfl rfl hLo rfl rfl (fun _ _ _ _ => rfl) (fun b G w hb ho => zD (.inl rfl) (zG rfl (HS1.get 0 rfl)))) ?_
    refine zA (zC 1 _ rfl rfl hLo rfl rfl (fun _ _ _ _ => rfl) (fun b G w hb ho => zD (.inl rfl) (zG rfl (HS1.get 1 rfl)))) ?_
    refine zA (st_call 2 _ #[.string (a), .string (b)] rfl rfl rfl (fun _ _ _ _ => rfl) hLo rfl rfl Tryd.func41 rfl rfl (fun b G hb ho => args2 (zB hLo 0 rfl HS1.1 rfl (hb 0 (by rfl))) (zB hLo 1 rfl HS1.1 rfl (hb 1 (by rfl)))) (fun w hw => cmpstr_calls _ _ _)) ?_
    refine zA (zC 3 _ rfl rfl hLo rfl rfl (fun _ _ _ _ => rfl) (fun b G w hb ho => zD (.inr rfl) (zB hLo 2 rfl HS1.1 rfl (hb 2 (by rfl))))) ?_
    exact zF
  clear hLo
  intro G a2 w2 hS hH
  have HS2 : Sl a2 8 [(0, .string (a)), (1, .string (b)), (4, .int .i64 (cmpB (bl (a)) (bl (b))))] := hS
  have HH2 : Held w w2 [] := hH
  clear hS hH HS1 HH1
  refine then_ ?_
  refine wp_ret ?_
  repeat (first | refine zS ?_ | refine zM ?_)
  exact b_tmp rfl HS2.2.1 (HS2.get 2 rfl) ⟨rfl, HH2.1⟩
theorem byKey_calls (a b : ByteArray) (s t : T) (w : World) : Calls Tryd.prog 28 #[.agg (FR () 7 (msc (a) (s))), .agg (FR () 7 (msc (b) (t)))] w fun e w' => e = .returned (.int .i64 (cmpB (bl a) (bl b))) ∧ Below w.heap.size w w' := by
  refine enter_ 10 Tryd.func28 rfl rfl (fun a0 hS => ?_)
  have HS0 : Sl a0 10 [(0, .agg (FR () 7 (msc (a) (s)))), (1, .agg (FR () 7 (msc (b) (t))))] := hS
  have HH0 : Held w w [] := Held.first w
  clear hS
  refine wp_seq ?_
  have hLo : LOk [(0, 2, .new 0 (fun g => .pointer (some ⟨g, 0, none⟩))), (1, 3, .new 1 (fun g => .pointer (some ⟨g, 0, none⟩))), (2, 4, .val (.int .i64 (0)))] := lok (by rfl) (by rfl)
  refine zK (wE := w) (sz := 10) (n := 3) [0, 1, 3] [(0, .val (.agg (FR () 7 (msc (a) (s))))), (1, .val (.agg (FR () 7 (msc (b) (t))))), (2, .new 0 (fun g => .pointer (some ⟨g, 0, none⟩))), (3, .new 1 (fun g => .pointer (some ⟨g, 0, none⟩))), (4, .val (.int .i64 (0)))] [(0, 2, .new 0 (fun g => .pointer (some ⟨g, 0, none⟩))), (1, 3, .new 1 (fun g => .pointer (some ⟨g, 0, none⟩))), (2, 4, .val (.int .i64 (0)))] [⟨0, some 0, none, (), 7, msc (a) (s), msc (a) (s), 36⟩, ⟨0, some 1, none, (), 7, msc (b) (t), msc (b) (t), 36⟩] rfl (by rfl) HH0 rfl rfl hLo rfl HS0 (slS 0 rfl rfl (slS 1 rfl rfl (slL 0 (d := 0) rfl (slL 1 (d := 1) rfl (slL 2 (d := 2) rfl (trivial)))))) ?_ ?_
  · show ∀ i ∈ [0, 1, 2], _
    refine zA (st_alloc 0 0 () 7 36 none _ _ rfl rfl (fun _ _ _ _ => rfl) rfl hLo rfl rfl rfl rfl (by rfl) (fun b G w hb ho => exec_box rfl (zG rfl (HS0.get 0 rfl)) (by kernel_rfl))) ?_
    refine zA (st_alloc 1 1 () 7 36 none _ _ rfl rfl (fun _ _ _ _ => rfl) rfl hLo rfl rfl rfl rfl (by rfl) (fun b G w hb ho => exec_box rfl (zG rfl (HS0.get 1 rfl)) (by kernel_rfl))) ?_
    refine zA (zC 2 _ rfl rfl hLo rfl rfl (fun _ _ _ _ => rfl) (fun b G w hb ho => zD (.inr rfl) (rfl))) ?_
    exact zF
  clear hLo
  intro G a1 w1 hS hH
  have HS1 : Sl a1 10 [(0, .agg (FR () 7 (msc (a) (s)))), (1, .agg (FR () 7 (msc (b) (t)))), (2, .pointer (some ⟨(G 0), 0, none⟩)), (3, .pointer (some ⟨(G 1), 0, none⟩)), (4, .int .i64 (0))] := hS
  have HH1 : Held w w1 [⟨(G 0), (), 7, msc (a) (s), 36⟩, ⟨(G 1), (), 7, msc (b) (t), 36⟩] := hH
  clear hS hH HS0 HH0
  generalize G 0 = g1_0 at HS1 HH1
  generalize G 1 = g1_1 at HS1 HH1
  refine then_ ?_
  refine wp_seq ?_
  have hLo : LOk [(0, 5, .val (.pointer (some ⟨g1_0, 0, none⟩))), (1, 6, .val (.string (a))), (2, 7, .val (.pointer (some ⟨g1_1, 0, none⟩))), (3, 8, .val (.string (b))), (4, 9, .val (.int .i64 (cmpB (bl (a)) (bl (b))))), (5, 4, .val (.int .i64 (cmpB (bl (a)) (bl (b)))))] := lok (by rfl) (by rfl)
  refine zK (wE := w) (sz := 10) (n := 6) [0, 1, 3, 7, 15, 31] [(0, .val (.agg (FR () 7 (msc (a) (s))))), (1, .val (.agg (FR () 7 (msc (b) (t))))), (2, .val (.pointer (some ⟨g1_0, 0, none⟩))), (3, .val (.pointer (some ⟨g1_1, 0, none⟩))), (4, .val (.int .i64 (cmpB (bl (a)) (bl (b)))))] [(0, 5, .val (.pointer (some ⟨g1_0, 0, none⟩))), (1, 6, .val (.string (a))), (2, 7, .val (.pointer (some ⟨g1_1, 0, none⟩))), (3, 8, .val (.string (b))), (4, 9, .val (.int .i64 (cmpB (bl (a)) (bl (b))))), (5, 4, .val (.int .i64 (cmpB (bl (a)) (bl (b)))))] [⟨g1_0, none, none, (), 7, msc (a) (s), msc (a) (s), 36⟩, ⟨g1_1, none, none, (), 7, msc (b) (t), msc (b) (t), 36⟩] rfl (by rfl) HH1 rfl rfl hLo rfl HS1 (slS 0 rfl rfl (slS 1 rfl rfl (slS 2 rfl rfl (slS 3 rfl rfl (slL 5 (d := 5) rfl (trivial)))))) ?_ ?_
  · show ∀ i ∈ [0, 1, 2, 3, 4, 5], _
    refine zA (zC 0 _ rfl rfl hLo rfl rfl (fun _ _ _ _ => rfl) (fun b G w hb ho => zH rfl (zG rfl (HS1.get 2 rfl)) (by kernel_rfl))) ?_
    refine zA (zW 1 0 _ _ rfl rfl rfl hLo rfl rfl (fun _ _ _ _ => rfl) (by rfl) (by rfl) (fun b G w hb ho hr => zP hr (Nat.le_of_ble_eq_true rfl) Tryd.underlying9 rfl rfl (zB hLo 0 rfl HS1.1 rfl (hb 0 (by rfl))))) ?_
    refine zA (zC 2 _ rfl rfl hLo rfl rfl (fun _ _ _ _ => rfl) (fun b G w hb ho => zH rfl (zG rfl (HS1.get 3 rfl)) (by kernel_rfl))) ?_
    refine zA (zW 3 1 _ _ rfl rfl rfl hLo rfl rfl (fun _ _ _ _ => rfl) (by rfl) (by rfl) (fun b G w hb ho hr => zP hr (Nat.le_of_ble_eq_true rfl) Tryd.underlying9 rfl rfl (zB hLo 2 rfl HS1.1 rfl (hb 2 (by rfl))))) ?_
    refine zA (st_call 4 _ #[.string (a), .string (b)] rfl rfl rfl (fun _ _ _ _ => rfl) hLo rfl rfl Tryd.func35 rfl rfl (fun b G hb ho => args2 (zB hLo 1 rfl HS1.1 rfl (hb 1 (by rfl))) (zB hLo 3 rfl HS1.1 rfl (hb 3 (by rfl)))) (fun w hw => compare_calls _ _ _)) ?_
    refine zA (zC 5 _ rfl rfl hLo rfl rfl (fun _ _ _ _ => rfl) (fun b G w hb ho => zD (.inr rfl) (zB hLo 4 rfl HS1.1 rfl (hb 4 (by rfl))))) ?_
    exact zF
  clear hLo
  intro G a2 w2 hS hH
  have HS2 : Sl a2 10 [(0, .agg (FR () 7 (msc (a) (s)))), (1, .agg (FR () 7 (msc (b) (t)))), (2, .pointer (some ⟨g1_0, 0, none⟩)), (3, .pointer (some ⟨g1_1, 0, none⟩)), (4, .int .i64 (cmpB (bl (a)) (bl (b))))] := hS
  have HH2 : Held w w2 [⟨g1_0, (), 7, msc (a) (s), 36⟩, ⟨g1_1, (), 7, msc (b) (t), 36⟩] := hH
  clear hS hH HS1 HH1
  refine then_ ?_
  refine wp_ret ?_
  repeat (first | refine zS ?_ | refine zM ?_)
  exact b_tmp rfl HS2.2.1 (HS2.get 4 rfl) ⟨rfl, HH2.1⟩
theorem at7 {w : World} {a : Addr} {o : Nat} {k : ByteArray} {t : T} (hk : w.cell? (a.add o) = some (.string k)) (hv : At6 w a (o + 1) t) : ∀ j, j < 7 → w.cell? ((a.add o).add j) = some (mkc () (msc k t j)) := by
  intro j hj
  rw [Go.Deep.add_add]
  cases j with
  | zero => exact hk
  | succ j =>
    have := hv j (by omega)
    rw [show o + 1 + j = o + (j + 1) by omega] at this
    exact this
theorem at7v {w : World} {a : Addr} {o : Nat} {t : T} (hv : At6 w a (o + 1) t) : ∀ j, j < 6 → w.cell? (((a.add o).add 1).add j) = some (mkc () (t.sc j)) := by
  intro j hj
  rw [Go.Deep.add_add, Go.Deep.add_add, ← Nat.add_assoc]
  exact hv j hj
theorem conv_iu {n : Nat} (h : n < 9223372036854775808) (w : World) : (convert 3 55 (.int .i64 (n : Int))).run Tryd.prog w = .ok (.int .u64 (n : Int)) w := by
  have e : IntKind.u64.wrap (n : Int) = (n : Int) := u64w _ (by omega) (by omega)
  go_simp
  try exact e
theorem conv_ui {n : Nat} (h : n < 9223372036854775808) (w : World) : (convert 55 3 (.int .u64 (n : Int))).run Tryd.prog w = .ok (.int .i64 (n : Int)) w := by
  have e : IntKind.i64.wrap (n : Int) = (n : Int) := (i64_w _).trans (w64 _ (by omega))
  go_simp
  try exact e
theorem shr_one {n : Nat} (h : n < 9223372036854775808) (w : World) (p q : Operand) : (do eqGuard .shr 55 p q (.int .u64 (n : Int)) (.int .u64 1); binOp .shr 55 (.int .u64 (n : Int)) (.int .u64 1) : Sem Value).run Tryd.prog w = .ok (.int .u64 ((n / 2 : Nat) : Int)) w := by
  go_simp
  try (congr 2; omega)
theorem w_nat {n : Nat} {z : Int} (h : z = (n : Int)) (hn : n < 9223372036854775808) : IntKind.i64.wrap z = (n : Int) := by
  subst h
  exact (i64_w _).trans (w64 _ (by omega))
theorem bs_end {K : Nat → ByteArray} {key : ByteArray} {n i : Nat} {b : Bool} (hr : Rise n fun k => bl (K k)) (hc : Cut n (fun k => bl (K k)) (bl key) i i) (hb : (decide (i < n) && (cmpB (bl (K i)) (bl key) == 0)) = b) :
    Ending.returned (.tuple #[.int .i64 (i : Int), .bool b]) = .returned (.tuple #[.int .i64 (lowK K key n : Int), .bool (look K key n).isSome]) := by
  have e : b = (look K key n).isSome := by
    rw [hc.look hr, ← hb]
    by_cases h : i < n
    · by_cases h2 : K i = key
      · rw [if_pos ⟨h, h2⟩, h2, cmpB_zero.2 rfl]; simp [h]
      · rw [if_neg fun q => h2 q.2]
        have : ¬ cmpB (bl (K i)) (bl key) = 0 := fun q => h2 (bl_inj (cmpB_zero.1 q))
        simp [this]
    · rw [if_neg fun q => h q.1]; simp [h]
  rw [e, lowK_cut hc]
theorem tabbs_8 : rtab .any (opsOf Tryd.f27 8) = (true, [([], []), ([], []), ([], []), ([1, 2], [1, 2]), ([3], [3]), ([4], [4]), ([4], [4]), ([4], [4]), ([6, 7, 4], [4, 6, 7]), ([8, 4], [4, 8]), ([4], [4]), ([5, 9, 10, 4, 4], [4, 5, 9, 10]), ([11, 4], [4, 11]), ([4, 12], [4, 12]), ([0, 11, 0], [0]), ([13, 14, 0, 1, 2, 3, 4, 5, 6, 7, 8, 9, 10, 11, 12, 13, 14], [13])]) := by kernel_rfl
theorem bitsbs_8 : waitsOk [([], []), ([], []), ([], []), ([1, 2], [1, 2]), ([3], [3]), ([4], [4]), ([4], [4]), ([4], [4]), ([6, 7, 4], [4, 6, 7]), ([8, 4], [4, 8]), ([4], [4]), ([5, 9, 10, 4, 4], [4, 5, 9, 10]), ([11, 4], [4, 11]), ([4, 12], [4, 12]), ([0, 11, 0], [0]), ([13, 14, 0, 1, 2, 3, 4, 5, 6, 7, 8, 9, 10, 11, 12, 13, 14], [13])] [0, 0, 0, 6, 14, 30, 30, 30, 222, 478, 30, 2046, 4094, 8190, 4095, 32767] = true := by kernel_rfl
theorem tabbs_5 : rtab .any (opsOf Tryd.f27 5) = (true, [([], []), ([], []), ([], []), ([1, 2], [1, 2]), ([3], [3]), ([], []), ([0, 4, 5], [0, 4, 5]), ([6], [6])]) := by kernel_rfl
theorem bitsbs_5 : waitsOk [([], []), ([], []), ([], []), ([1, 2], [1, 2]), ([3], [3]), ([], []), ([0, 4, 5], [0, 4, 5]), ([6], [6])] [0, 0, 0, 6, 14, 0, 63, 127] = true := by kernel_rfl
theorem bs_calls {w : World} {t : T} (key : ByteArray) (hIn : In w t) (hR : Rise t.ml fun k => bl (t.key k)) : Calls Tryd.prog 27 #[.slice (t.xm) (t.ml) (t.cm), .agg (FR () 7 (msc (key) (T.zero))), .func (.func 28) #[] #[]] w fun e w' => e = .returned (.tuple #[.int .i64 (lowK t.key key t.ml : Int), .bool (look t.key key t.ml).isSome]) ∧ Below w.heap.size w w' := by
  have hb47 := hIn.own.2.2.2.2.1
  unfold reach47 at hb47
  refine enter_ 49 Tryd.func27 rfl rfl (fun a0 hS => ?_)
  have HS0 : Sl a0 49 [(0, .slice (t.xm) (t.ml) (t.cm)), (1, .agg (FR () 7 (msc (key) (T.zero)))), (2, .func (.func 28) #[] #[])] := hS
  have HH0 : Held w w [] := Held.first w
  clear hS
  refine wp_seq ?_
  have hLo : LOk [(0, 4, .new 0 (fun g => .pointer (some ⟨g, 0, none⟩))), (1, 6, .val (.int .i64 (0))), (2, 7, .val (.bool false))] := lok (by rfl) (by rfl)
  refine zK (wE := w) (sz := 49) (n := 3) [0, 1, 3] [(0, .val (.slice (t.xm) (t.ml) (t.cm))), (1, .val (.agg (FR () 7 (msc (key) (T.zero))))), (2, .val (.func (.func 28) #[] #[])), (4, .new 0 (fun g => .pointer (some ⟨g, 0, none⟩))), (6, .val (.int .i64 (0))), (7, .val (.bool false))] [(0, 4, .new 0 (fun g => .pointer (some ⟨g, 0, none⟩))), (1, 6, .val (.int .i64 (0))), (2, 7, .val (.bool false))] [⟨0, some 0, none, (), 7, msc (key) (T.zero), msc (key) (T.zero), 36⟩] rfl (by rfl) HH0 rfl rfl hLo rfl HS0 (slS 0 rfl rfl (slS 1 rfl rfl (slS 2 rfl rfl (slL 0 (d := 0) rfl (slL 1 (d := 1) rfl (slL 2 (d := 2) rfl (trivial))))))) ?_ ?_
  · show ∀ i ∈ [0, 1, 2], _
    refine zA (st_alloc 0 0 () 7 36 none _ _ rfl rfl (fun _ _ _ _ => rfl) rfl hLo rfl rfl rfl rfl (by rfl) (fun b G w hb ho => exec_box rfl (zG rfl (HS0.get 1 rfl)) (by kernel_rfl))) ?_
    refine zA (zC 1 _ rfl rfl hLo rfl rfl (fun _ _ _ _ => rfl) (fun b G w hb ho => zD (.inr rfl) (rfl))) ?_
    refine zA (zC 2 _ rfl rfl hLo rfl rfl (fun _ _ _ _ => rfl) (fun b G w hb ho => zD (.inr rfl) (rfl))) ?_
    exact zF
  clear hLo
  intro G a1 w1 hS hH
  have HS1 : Sl a1 49 [(0, .slice (t.xm) (t.ml) (t.cm)), (1, .agg (FR () 7 (msc (key) (T.zero)))), (2, .func (.func 28) #[] #[]), (4, .pointer (some ⟨(G 0), 0, none⟩)), (6, .int .i64 (0)), (7, .bool false)] := hS
  have HH1 : Held w w1 [⟨(G 0), (), 7, msc (key) (T.zero), 36⟩] := hH
  clear hS hH HS0 HH0
  generalize G 0 = g1_0 at HS1 HH1
  refine then_ ?_
  refine wp_seq ?_
  have hLo : LOk [(0, 12, .val (.slice (t.xm) (t.ml) (t.cm))), (1, 13, .val (.int .i64 ((t.ml : Int)))), (2, 8, .val (.int .i64 ((t.ml : Int))))] := lok (by rfl) (by rfl)
  refine zK (wE := w) (sz := 49) (n := 3) [0, 1, 3] [(0, .val (.slice (t.xm) (t.ml) (t.cm))), (1, .val (.agg (FR () 7 (msc (key) (T.zero))))), (2, .val (.func (.func 28) #[] #[])), (4, .val (.pointer (some ⟨g1_0, 0, none⟩))), (6, .val (.int .i64 (0))), (7, .val (.bool false)), (8, .val (.int .i64 ((t.ml : Int))))] [(0, 12, .val (.slice (t.xm) (t.ml) (t.cm))), (1, 13, .val (.int .i64 ((t.ml : Int)))), (2, 8, .val (.int .i64 ((t.ml : Int))))] [⟨g1_0, none, none, (), 7, msc (key) (T.zero), msc (key) (T.zero), 36⟩] rfl (by rfl) HH1 rfl rfl hLo rfl HS1 (slS 0 rfl rfl (slS 1 rfl rfl (slS 2 rfl rfl (slS 3 rfl rfl (slS 4 rfl rfl (slS 5 rfl rfl (slL 2 (d := 2) rfl (trivial)))))))) ?_ ?_
  · show ∀ i ∈ [0, 1, 2], _
    refine zA (zC 0 _ rfl rfl hLo rfl rfl (fun _ _ _ _ => rfl) (fun b G w hb ho => zD (.inl rfl) (zG rfl (HS1.get 0 rfl)))) ?_
    refine zA (zC 1 _ rfl rfl hLo rfl rfl (fun _ _ _ _ => rfl) (fun b G w hb ho => exec_lenL Tryd.underlying23 rfl (zB hLo 0 rfl HS1.1 rfl (hb 0 (by rfl))))) ?_
    refine zA (zC 2 _ rfl rfl hLo rfl rfl (fun _ _ _ _ => rfl) (fun b G w hb ho => zD (.inr rfl) (zB hLo 1 rfl HS1.1 rfl (hb 1 (by rfl))))) ?_
    exact zF
  clear hLo
  intro G a2 w2 hS hH
  have HS2 : Sl a2 49 [(0, .slice (t.xm) (t.ml) (t.cm)), (1, .agg (FR () 7 (msc (key) (T.zero)))), (2, .func (.func 28) #[] #[]), (4, .pointer (some ⟨g1_0, 0, none⟩)), (6, .int .i64 (0)), (7, .bool false), (8, .int .i64 ((t.ml : Int)))] := hS
  have HH2 : Held w w2 [⟨g1_0, (), 7, msc (key) (T.zero), 36⟩] := hH
  clear hS hH HS1 HH1
  refine then_ ?_
  refine wp_seq ?_
  have hLo : LOk [(0, 14, .val (.int .i64 ((t.ml : Int)))), (1, 9, .val (.int .i64 (0))), (2, 10, .val (.int .i64 ((t.ml : Int))))] := lok (by rfl) (by rfl)
  refine zK (wE := w) (sz := 49) (n := 3) [0, 1, 3] [(0, .val (.slice (t.xm) (t.ml) (t.cm))), (1, .val (.agg (FR () 7 (msc (key) (T.zero))))), (2, .val (.func (.func 28) #[] #[])), (4, .val (.pointer (some ⟨g1_0, 0, none⟩))), (6, .val (.int .i64 (0))), (7, .val (.bool false)), (8, .val (.int .i64 ((t.ml : Int)))), (9, .val (.int .i64 (0))), (10, .val (.int .i64 ((t.ml : Int))))] [(0, 14, .val (.int .i64 ((t.ml : Int)))), (1, 9, .val (.int .i64 (0))), (2, 10, .val (.int .i64 ((t.ml : Int))))] [⟨g1_0, none, none, (), 7, msc (key) (T.zero), msc (key) (T.zero), 36⟩] rfl (by rfl) HH2 rfl rfl hLo rfl HS2 (slS 0 rfl rfl (slS 1 rfl rfl (slS 2 rfl rfl (slS 3 rfl rfl (slS 4 rfl rfl (slS 5 rfl rfl (slS 6 rfl rfl (slL 1 (d := 1) rfl (slL 2 (d := 2) rfl (trivial)))))))))) ?_ ?_
  · show ∀ i ∈ [0, 1, 2], _
    refine zA (zC 0 _ rfl rfl hLo rfl rfl (fun _ _ _ _ => rfl) (fun b G w hb ho => zD (.inl rfl) (zG rfl (HS2.get 6 rfl)))) ?_
    refine zA (zC 1 _ rfl rfl hLo rfl rfl (fun _ _ _ _ => rfl) (fun b G w hb ho => zD (.inr rfl) (rfl))) ?_
    refine zA (zC 2 _ rfl rfl hLo rfl rfl (fun _ _ _ _ => rfl) (fun b G w hb ho => zD (.inr rfl) (zB hLo 0 rfl HS2.1 rfl (hb 0 (by rfl))))) ?_
    exact zF
  clear hLo
  intro G a3 w3 hS hH
  have HS3 : Sl a3 49 [(0, .slice (t.xm) (t.ml) (t.cm)), (1, .agg (FR () 7 (msc (key) (T.zero)))), (2, .func (.func 28) #[] #[]), (4, .pointer (some ⟨g1_0, 0, none⟩)), (6, .int .i64 (0)), (7, .bool false), (8, .int .i64 ((t.ml : Int))), (9, .int .i64 (0)), (10, .int .i64 ((t.ml : Int)))] := hS
  have HH3 : Held w w3 [⟨g1_0, (), 7, msc (key) (T.zero), 36⟩] := hH
  clear hS hH HS2 HH2
  refine then_ ?_
  refine wp_seq ?_
  refine wp_block ?_
  have hSq0 : Sl _ 49 [(0, .slice (t.xm) (t.ml) (t.cm)), (1, .agg (FR () 7 (msc (key) (T.zero)))), (2, .func (.func 28) #[] #[]), (4, .pointer (some ⟨g1_0, 0, none⟩)), (6, .int .i64 (0)), (7, .bool false), (8, .int .i64 ((t.ml : Int))), (9, .int .i64 (0)), (10, .int .i64 ((t.ml : Int)))] := sl_keep HS3 [0, 1, 2, 3, 4, 5, 6, 7, 8] (by rfl)
  refine wp_loop (fun a w' => ∃ i : Nat, ∃ j : Nat, Cut t.ml (fun k => bl (t.key k)) (bl key) i j ∧ Sl a 49 [(0, .slice (t.xm) (t.ml) (t.cm)), (1, .agg (FR () 7 (msc (key) (T.zero)))), (2, .func (.func 28) #[] #[]), (4, .pointer (some ⟨g1_0, 0, none⟩)), (6, .int .i64 (0)), (7, .bool false), (8, .int .i64 ((t.ml : Int))), (9, .int .i64 ((i : Int))), (10, .int .i64 ((j : Int)))] ∧ Held w w' [⟨g1_0, (), 7, msc (key) (T.zero), 36⟩]) (fun a w' => (intOf (a.eval (.tmp 10))).toNat - (intOf (a.eval (.tmp 9))).toNat) ⟨0, t.ml, Cut.first _ _ _, hSq0, HH3⟩ ?_
  clear hSq0 HS3 HH3
  rintro aq0 wq0 ⟨i, j, hC, HSq0, HHq0⟩
  have hm : (intOf (aq0.eval (.tmp 10))).toNat - (intOf (aq0.eval (.tmp 9))).toNat = j - i := by rw [(HSq0.get 8 rfl), (HSq0.get 7 rfl)]; rfl
  rw [hm]
  clear hm
  have hij := hC.1
  have hjn := hC.2.1
  refine wp_seq ?_
  obtain ⟨r1, hr1⟩ : ∃ r : Bool, (decide (((i : Int) : Int) < (j : Int))) = r := ⟨_, rfl⟩
  refine wp_seq ?_
  have hLo : LOk [(0, 15, .val (.int .i64 ((i : Int)))), (1, 16, .val (.int .i64 ((j : Int)))), (2, 17, .val (.bool r1))] := lok (by rfl) (by rfl)
  refine zK (wE := w) (sz := 49) (n := 3) [0, 1, 3] [(0, .val (.slice (t.xm) (t.ml) (t.cm))), (1, .val (.agg (FR () 7 (msc (key) (T.zero))))), (2, .val (.func (.func 28) #[] #[])), (4, .val (.pointer (some ⟨g1_0, 0, none⟩))), (6, .val (.int .i64 (0))), (7, .val (.bool false)), (8, .val (.int .i64 ((t.ml : Int)))), (9, .val (.int .i64 ((i : Int)))), (10, .val (.int .i64 ((j : Int)))), (17, .val (.bool r1))] [(0, 15, .val (.int .i64 ((i : Int)))), (1, 16, .val (.int .i64 ((j : Int)))), (2, 17, .val (.bool r1))] [⟨g1_0, none, none, (), 7, msc (key) (T.zero), msc (key) (T.zero), 36⟩] rfl (by rfl) HHq0 rfl rfl hLo rfl HSq0 (slS 0 rfl rfl (slS 1 rfl rfl (slS 2 rfl rfl (slS 3 rfl rfl (slS 4 rfl rfl (slS 5 rfl rfl (slS 6 rfl rfl (slS 7 rfl rfl (slS 8 rfl rfl (slL 2 (d := 2) rfl (trivial))))))))))) ?_ ?_
  · show ∀ i ∈ [0, 1, 2], _
    refine zA (zC 0 _ rfl rfl hLo rfl rfl (fun _ _ _ _ => rfl) (fun b G w hb ho => zD (.inl rfl) (zG rfl (HSq0.get 7 rfl)))) ?_
    refine zA (zC 1 _ rfl rfl hLo rfl rfl (fun _ _ _ _ => rfl) (fun b G w hb ho => zD (.inl rfl) (zG rfl (HSq0.get 8 rfl)))) ?_
    refine zA (zC 2 _ rfl rfl hLo rfl rfl (fun _ _ _ _ => rfl) (fun b G w hb ho => zJ rfl (zB hLo 0 rfl HSq0.1 rfl (hb 0 (by rfl))) (zB hLo 1 rfl HSq0.1 rfl (hb 1 (by rfl))) (rb_lss hr1 _ _ _))) ?_
    exact zF
  clear hLo
  intro G a4 w4 hS hH
  have HS4 : Sl a4 49 [(0, .slice (t.xm) (t.ml) (t.cm)), (1, .agg (FR () 7 (msc (key) (T.zero)))), (2, .func (.func 28) #[] #[]), (4, .pointer (some ⟨g1_0, 0, none⟩)), (6, .int .i64 (0)), (7, .bool false), (8, .int .i64 ((t.ml : Int))), (9, .int .i64 ((i : Int))), (10, .int .i64 ((j : Int))), (17, .bool r1)] := hS
  have HH4 : Held w w4 [⟨g1_0, (), 7, msc (key) (T.zero), 36⟩] := hH
  clear hS hH HSq0 HHq0
  refine then_ ?_
  cases r1
  · skip
    obtain rfl : i = j := by have := of_decide_eq_false hr1; omega
    refine wp_cond_false (HS4.get 9 rfl) ?_
    refine wp_exit ?_
    refine zV ?_
    refine zV ?_
    refine inBlock_exit ?_
    refine then_ ?_
    obtain ⟨r2, hr2⟩ : ∃ r : Bool, (decide (((i : Int) : Int) < (t.ml : Int))) = r := ⟨_, rfl⟩
    cases r2
    · skip
      refine wp_seq ?_
      have hLo : LOk [(0, 35, .val (.int .i64 ((i : Int)))), (1, 36, .val (.int .i64 ((i : Int)))), (2, 37, .val (.int .i64 ((t.ml : Int)))), (3, 38, .val (.bool false)), (4, 39, .val (.bool false)), (5, 40, .val (undef)), (6, 41, .val (undef)), (7, 42, .val (undef)), (8, 43, .val (undef)), (9, 44, .val (undef)), (10, 45, .val (undef)), (11, 46, .val (undef)), (12, 47, .val (undef)), (13, 48, .val (.bool false)), (14, 6, .val (.int .i64 ((i : Int)))), (15, 7, .val (.bool false))] := lok (by rfl) (by rfl)
      refine region_ (wE := w) (sz := 49) (n := 16) (B := [0, 0, 0, 6, 14, 30, 30, 30, 222, 478, 30, 2046, 4094, 8190, 4095, 32767]) [0, 1, 2, 3, 4, 5, 6, 7, 8, 9, 10, 11, 12, 13, 14, 15] [(0, .val (.slice (t.xm) (t.ml) (t.cm))), (1, .val (.agg (FR () 7 (msc (key) (T.zero))))), (2, .val (.func (.func 28) #[] #[])), (4, .val (.pointer (some ⟨g1_0, 0, none⟩))), (8, .val (.int .i64 ((t.ml : Int)))), (9, .val (.int .i64 ((i : Int)))), (10, .val (.int .i64 ((i : Int)))), (17, .val (.bool false)), (6, .val (.int .i64 ((i : Int)))), (7, .val (.bool false))] [(0, 35, .val (.int .i64 ((i : Int)))), (1, 36, .val (.int .i64 ((i : Int)))), (2, 37, .val (.int .i64 ((t.ml : Int)))), (3, 38, .val (.bool false)), (4, 39, .val (.bool false)), (5, 40, .val (undef)), (6, 41, .val (undef)), (7, 42, .val (undef)), (8, 43, .val (undef)), (9, 44, .val (undef)), (10, 45, .val (undef)), (11, 46, .val (undef)), (12, 47, .val (undef)), (13, 48, .val (.bool false)), (14, 6, .val (.int .i64 ((i : Int)))), (15, 7, .val (.bool false))] [⟨g1_0, none, none, (), 7, msc (key) (T.zero), msc (key) (T.zero), 36⟩] (by rfl) rfl tabbs_8 bitsbs_8 (by kernel_rfl) (by kernel_rfl) HH4 rfl rfl hLo rfl HS4 (slS 0 rfl rfl (slS 1 rfl rfl (slS 2 rfl rfl (slS 3 rfl rfl (slS 6 rfl rfl (slS 7 rfl rfl (slS 8 rfl rfl (slS 9 rfl rfl (slL 14 (d := 14) rfl (slL 15 (d := 15) rfl (trivial))))))))))) ?_ ?_
      · show ∀ i ∈ [0, 1, 2, 3, 4, 5, 6, 7, 8, 9, 10, 11, 12, 13, 14, 15], _
        refine zA (zC 0 _ rfl rfl hLo rfl rfl (fun _ _ _ _ => rfl) (fun b G w hb ho => zD (.inl rfl) (zG rfl (HS4.get 7 rfl)))) ?_
        refine zA (zC 1 _ rfl rfl hLo rfl rfl (fun _ _ _ _ => rfl) (fun b G w hb ho => zD (.inl rfl) (zG rfl (HS4.get 7 rfl)))) ?_
        refine zA (zC 2 _ rfl rfl hLo rfl rfl (fun _ _ _ _ => rfl) (fun b G w hb ho => zD (.inl rfl) (zG rfl (HS4.get 6 rfl)))) ?_
        refine zA (zC 3 _ rfl rfl hLo rfl rfl (fun _ _ _ _ => rfl) (fun b G w hb ho => zJ rfl (zB hLo 1 rfl HS4.1 rfl (hb 1 (by rfl))) (zB hLo 2 rfl HS4.1 rfl (hb 2 (by rfl))) (rb_lss hr2 _ _ _))) ?_
        refine zA (zC 4 _ rfl rfl hLo rfl rfl (fun _ _ _ _ => rfl) (fun b G w hb ho => zD (.inl rfl) (zB hLo 3 rfl HS4.1 rfl (hb 3 (by rfl))))) ?_
        refine zA (zL 5 rfl rfl hLo rfl rfl (fun b G hb ho => zE rfl rfl rfl HS4.1 rfl (zB hLo 4 rfl HS4.1 rfl (hb 4 (by rfl))) rfl)) ?_
        refine zA (zL 6 rfl rfl hLo rfl rfl (fun b G hb ho => zE rfl rfl rfl HS4.1 rfl (zB hLo 4 rfl HS4.1 rfl (hb 4 (by rfl))) rfl)) ?_
        refine zA (zL 7 rfl rfl hLo rfl rfl (fun b G hb ho => zE rfl rfl rfl HS4.1 rfl (zB hLo 4 rfl HS4.1 rfl (hb 4 (by rfl))) rfl)) ?_
        refine zA (zL 8 rfl rfl hLo rfl rfl (fun b G hb ho => zE rfl rfl rfl HS4.1 rfl (zB hLo 4 rfl HS4.1 rfl (hb 4 (by rfl))) rfl)) ?_
        refine zA (zL 9 rfl rfl hLo rfl rfl (fun b G hb ho => zE rfl rfl rfl HS4.1 rfl (zB hLo 4 rfl HS4.1 rfl (hb 4 (by rfl))) rfl)) ?_
        refine zA (zL 10 rfl rfl hLo rfl rfl (fun b G hb ho => zE rfl rfl rfl HS4.1 rfl (zB hLo 4 rfl HS4.1 rfl (hb 4 (by rfl))) rfl)) ?_
        refine zA (zL 11 rfl rfl hLo rfl rfl (fun b G hb ho => zE rfl rfl rfl HS4.1 rfl (zB hLo 4 rfl HS4.1 rfl (hb 4 (by rfl))) rfl)) ?_
        refine zA (zL 12 rfl rfl hLo rfl rfl (fun b G hb ho => zE rfl rfl rfl HS4.1 rfl (zB hLo 4 rfl HS4.1 rfl (hb 4 (by rfl))) rfl)) ?_
        refine zA (zC 13 _ rfl rfl hLo rfl rfl (fun _ _ _ _ => rfl) (fun b G w hb ho => zO rfl (zB hLo 4 rfl HS4.1 rfl (hb 4 (by rfl))) (rfl))) ?_
        refine zA (zC 14 _ rfl rfl hLo rfl rfl (fun _ _ _ _ => rfl) (fun b G w hb ho => zD (.inr rfl) (zB hLo 0 rfl HS4.1 rfl (hb 0 (by rfl))))) ?_
        refine zA (zC 15 _ rfl rfl hLo rfl rfl (fun _ _ _ _ => rfl) (fun b G w hb ho => zD (.inr rfl) (zB hLo 13 rfl HS4.1 rfl (hb 13 (by rfl))))) ?_
        exact zF
      clear hLo
      intro G a5 w5 hS hH
      have HS5 : Sl a5 49 [(0, .slice (t.xm) (t.ml) (t.cm)), (1, .agg (FR () 7 (msc (key) (T.zero)))), (2, .func (.func 28) #[] #[]), (4, .pointer (some ⟨g1_0, 0, none⟩)), (8, .int .i64 ((t.ml : Int))), (9, .int .i64 ((i : Int))), (10, .int .i64 ((i : Int))), (17, .bool false), (6, .int .i64 ((i : Int))), (7, .bool false)] := hS
      have HH5 : Held w w5 [⟨g1_0, (), 7, msc (key) (T.zero), 36⟩] := hH
      clear hS hH HS4 HH4
      refine then_ ?_
      refine wp_ret ?_
      repeat (first | refine zS ?_ | refine zM ?_)
      exact b_tmp2 rfl HS5.2.1 (HS5.get 8 rfl) (HS5.get 9 rfl) ⟨bs_end hR hC (by rw [decide_eq_false (show ¬ i < t.ml by have := of_decide_eq_false hr2; omega)]; rfl), HH5.1⟩
    · skip
      have hin : i < t.ml := by have := of_decide_eq_true hr2; omega
      obtain ⟨⟨a1, hx1, hk1, hv1⟩, _, _⟩ := (hIn).mems (i := i) (by omega)
      obtain ⟨r3, hr3⟩ : ∃ r : Bool, (((cmpB (bl ((t).key (i))) (bl (key)) : Int) == 0)) = r := ⟨_, rfl⟩
      refine wp_seq ?_
      have hLo : LOk [(0, 35, .val (.int .i64 ((i : Int)))), (1, 36, .val (.int .i64 ((i : Int)))), (2, 37, .val (.int .i64 ((t.ml : Int)))), (3, 38, .val (.bool true)), (4, 39, .val (.bool true)), (5, 40, .val (.func (.func 28) #[] #[])), (6, 41, .val (.slice (t.xm) (t.ml) (t.cm))), (7, 42, .val (.int .i64 ((i : Int)))), (8, 43, .val (.pointer (some (a1.add (i * 7))))), (9, 44, .val (.agg (FR () 7 (msc ((t).key (i)) ((t).mem (i)))))), (10, 45, .val (.agg (FR () 7 (msc (key) (T.zero))))), (11, 46, .val (.int .i64 (cmpB (bl ((t).key (i))) (bl (key))))), (12, 47, .val (.bool r3)), (13, 48, .val (.bool r3)), (14, 6, .val (.int .i64 ((i : Int)))), (15, 7, .val (.bool r3))] := lok (by rfl) (by rfl)
      refine region_ (wE := w) (sz := 49) (n := 16) (B := [0, 0, 0, 6, 14, 30, 30, 30, 222, 478, 30, 2046, 4094, 8190, 4095, 32767]) [0, 1, 2, 3, 4, 5, 6, 7, 8, 9, 10, 11, 12, 13, 14, 15] [(0, .val (.slice (t.xm) (t.ml) (t.cm))), (1, .val (.agg (FR () 7 (msc (key) (T.zero))))), (2, .val (.func (.func 28) #[] #[])), (4, .val (.pointer (some ⟨g1_0, 0, none⟩))), (8, .val (.int .i64 ((t.ml : Int)))), (9, .val (.int .i64 ((i : Int)))), (10, .val (.int .i64 ((i : Int)))), (17, .val (.bool false)), (6, .val (.int .i64 ((i : Int)))), (7, .val (.bool r3))] [(0, 35, .val (.int .i64 ((i : Int)))), (1, 36, .val (.int .i64 ((i : Int)))), (2, 37, .val (.int .i64 ((t.ml : Int)))), (3, 38, .val (.bool true)), (4, 39, .val (.bool true)), (5, 40, .val (.func (.func 28) #[] #[])), (6, 41, .val (.slice (t.xm) (t.ml) (t.cm))), (7, 42, .val (.int .i64 ((i : Int)))), (8, 43, .val (.pointer (some (a1.add (i * 7))))), (9, 44, .val (.agg (FR () 7 (msc ((t).key (i)) ((t).mem (i)))))), (10, 45, .val (.agg (FR () 7 (msc (key) (T.zero))))), (11, 46, .val (.int .i64 (cmpB (bl ((t).key (i))) (bl (key))))), (12, 47, .val (.bool r3)), (13, 48, .val (.bool r3)), (14, 6, .val (.int .i64 ((i : Int)))), (15, 7, .val (.bool r3))] [⟨g1_0, none, none, (), 7, msc (key) (T.zero), msc (key) (T.zero), 36⟩] (by rfl) rfl tabbs_8 bitsbs_8 (by kernel_rfl) (by kernel_rfl) HH4 rfl rfl hLo rfl HS4 (slS 0 rfl rfl (slS 1 rfl rfl (slS 2 rfl rfl (slS 3 rfl rfl (slS 6 rfl rfl (slS 7 rfl rfl (slS 8 rfl rfl (slS 9 rfl rfl (slL 14 (d := 14) rfl (slL 15 (d := 15) rfl (trivial))))))))))) ?_ ?_
      · show ∀ i ∈ [0, 1, 2, 3, 4, 5, 6, 7, 8, 9, 10, 11, 12, 13, 14, 15], _
        refine zA (zC 0 _ rfl rfl hLo rfl rfl (fun _ _ _ _ => rfl) (fun b G w hb ho => zD (.inl rfl) (zG rfl (HS4.get 7 rfl)))) ?_
        refine zA (zC 1 _ rfl rfl hLo rfl rfl (fun _ _ _ _ => rfl) (fun b G w hb ho => zD (.inl rfl) (zG rfl (HS4.get 7 rfl)))) ?_
        refine zA (zC 2 _ rfl rfl hLo rfl rfl (fun _ _ _ _ => rfl) (fun b G w hb ho => zD (.inl rfl) (zG rfl (HS4.get 6 rfl)))) ?_
        refine zA (zC 3 _ rfl rfl hLo rfl rfl (fun _ _ _ _ => rfl) (fun b G w hb ho => zJ rfl (zB hLo 1 rfl HS4.1 rfl (hb 1 (by rfl))) (zB hLo 2 rfl HS4.1 rfl (hb 2 (by rfl))) (rb_lss hr2 _ _ _))) ?_
        refine zA (zC 4 _ rfl rfl hLo rfl rfl (fun _ _ _ _ => rfl) (fun b G w hb ho => zD (.inl rfl) (zB hLo 3 rfl HS4.1 rfl (hb 3 (by rfl))))) ?_
        refine zA (zC 5 _ rfl rfl hLo rfl rfl (fun b G hb ho => zE rfl rfl rfl HS4.1 rfl (zB hLo 4 rfl HS4.1 rfl (hb 4 (by rfl))) rfl) (fun b G w hb ho => zD (.inl rfl) (zG rfl (HS4.get 2 rfl)))) ?_
        refine zA (zC 6 _ rfl rfl hLo rfl rfl (fun b G hb ho => zE rfl rfl rfl HS4.1 rfl (zB hLo 4 rfl HS4.1 rfl (hb 4 (by rfl))) rfl) (fun b G w hb ho => zD (.inl rfl) (zG rfl (HS4.get 0 rfl)))) ?_
        refine zA (zC 7 _ rfl rfl hLo rfl rfl (fun b G hb ho => zE rfl rfl rfl HS4.1 rfl (zB hLo 4 rfl HS4.1 rfl (hb 4 (by rfl))) rfl) (fun b G w hb ho => zD (.inl rfl) (zG rfl (HS4.get 7 rfl)))) ?_
        refine zA (zC 8 _ rfl rfl hLo rfl rfl (fun b G hb ho => zE rfl rfl rfl HS4.1 rfl (zB hLo 4 rfl HS4.1 rfl (hb 4 (by rfl))) rfl) (fun b G w hb ho => zU rfl (zB hLo 6 rfl HS4.1 rfl (hb 6 (by rfl))) (zB hLo 7 rfl HS4.1 rfl (hb 7 (by rfl))) (index_sl Tryd.underlying23 (by kernel_rfl) hx1 (by omega) _))) ?_
        refine zA (st_at 9 (a1.add (i * 7)) rfl rfl rfl (fun b G hb ho => zE rfl rfl rfl HS4.1 rfl (zB hLo 4 rfl HS4.1 rfl (hb 4 (by rfl))) rfl) hLo rfl rfl Tryd.underlying36 (by kernel_rfl) rfl (at7 hk1 hv1) (fun b G hb ho => zB hLo 8 rfl HS4.1 rfl (hb 8 (by rfl)))) ?_
        refine zA (st_row0 10 0 _ rfl rfl rfl rfl (fun b G hb ho => zE rfl rfl rfl HS4.1 rfl (zB hLo 4 rfl HS4.1 rfl (hb 4 (by rfl))) rfl) hLo rfl rfl rfl (by rfl) Tryd.underlying36 (by kernel_rfl) rfl (fun b G hb ho => zG rfl (HS4.get 3 rfl))) ?_
        refine zA (st_callV 11 _ #[.agg (FR () 7 (msc ((t).key (i)) ((t).mem (i)))), .agg (FR () 7 (msc (key) (T.zero)))] #[] rfl rfl rfl (fun b G hb ho => zE rfl rfl rfl HS4.1 rfl (zB hLo 4 rfl HS4.1 rfl (hb 4 (by rfl))) rfl) hLo rfl rfl Tryd.func28 rfl rfl (fun b G hb ho => zB hLo 5 rfl HS4.1 rfl (hb 5 (by rfl))) (fun b G hb ho => args2 (zB hLo 9 rfl HS4.1 rfl (hb 9 (by rfl))) (zB hLo 10 rfl HS4.1 rfl (hb 10 (by rfl)))) (fun w hw => byKey_calls _ _ _ _ _)) ?_
        refine zA (zC 12 _ rfl rfl hLo rfl rfl (fun b G hb ho => zE rfl rfl rfl HS4.1 rfl (zB hLo 4 rfl HS4.1 rfl (hb 4 (by rfl))) rfl) (fun b G w hb ho => zJ rfl (zB hLo 11 rfl HS4.1 rfl (hb 11 (by rfl))) (rfl) (rb_eql hr3 _ _ _))) ?_
        refine zA (zC 13 _ rfl rfl hLo rfl rfl (fun _ _ _ _ => rfl) (fun b G w hb ho => zO rfl (zB hLo 4 rfl HS4.1 rfl (hb 4 (by rfl))) (zB hLo 12 rfl HS4.1 rfl (hb 12 (by rfl))))) ?_
        refine zA (zC 14 _ rfl rfl hLo rfl rfl (fun _ _ _ _ => rfl) (fun b G w hb ho => zD (.inr rfl) (zB hLo 0 rfl HS4.1 rfl (hb 0 (by rfl))))) ?_
        refine zA (zC 15 _ rfl rfl hLo rfl rfl (fun _ _ _ _ => rfl) (fun b G w hb ho => zD (.inr rfl) (zB hLo 13 rfl HS4.1 rfl (hb 13 (by rfl))))) ?_
        exact zF
      clear hLo
      intro G a6 w6 hS hH
      have HS6 : Sl a6 49 [(0, .slice (t.xm) (t.ml) (t.cm)), (1, .agg (FR () 7 (msc (key) (T.zero)))), (2, .func (.func 28) #[] #[]), (4, .pointer (some ⟨g1_0, 0, none⟩)), (8, .int .i64 ((t.ml : Int))), (9, .int .i64 ((i : Int))), (10, .int .i64 ((i : Int))), (17, .bool false), (6, .int .i64 ((i : Int))), (7, .bool r3)] := hS
      have HH6 : Held w w6 [⟨g1_0, (), 7, msc (key) (T.zero), 36⟩] := hH
      clear hS hH HS4 HH4
      refine then_ ?_
      refine wp_ret ?_
      repeat (first | refine zS ?_ | refine zM ?_)
      exact b_tmp2 rfl HS6.2.1 (HS6.get 8 rfl) (HS6.get 9 rfl) ⟨bs_end hR hC (by rw [decide_eq_true hin, Bool.true_and]; exact hr3), HH6.1⟩
  · skip
    have hlt : i < j := by have := of_decide_eq_true hr1; omega
    refine wp_cond_true (HS4.get 9 rfl) ?_
    refine wp_skip ?_
    refine then_ ?_
    refine wp_block ?_
    refine wp_seq ?_
    have hLo : LOk [(0, 18, .val (.int .i64 ((i : Int)))), (1, 19, .val (.int .i64 ((j : Int)))), (2, 20, .val (.int .i64 (((i + j : Nat) : Int)))), (3, 21, .val (.int .u64 (((i + j : Nat) : Int)))), (4, 22, .val (.int .u64 ((((i + j) / 2 : Nat) : Int)))), (5, 23, .val (.int .i64 ((((i + j) / 2 : Nat) : Int)))), (6, 11, .val (.int .i64 ((((i + j) / 2 : Nat) : Int))))] := lok (by rfl) (by rfl)
    refine zK (wE := w) (sz := 49) (n := 7) [0, 1, 3, 7, 15, 31, 63] [(0, .val (.slice (t.xm) (t.ml) (t.cm))), (1, .val (.agg (FR () 7 (msc (key) (T.zero))))), (2, .val (.func (.func 28) #[] #[])), (4, .val (.pointer (some ⟨g1_0, 0, none⟩))), (6, .val (.int .i64 (0))), (7, .val (.bool false)), (8, .val (.int .i64 ((t.ml : Int)))), (9, .val (.int .i64 ((i : Int)))), (10, .val (.int .i64 ((j : Int)))), (17, .val (.bool true)), (11, .val (.int .i64 ((((i + j) / 2 : Nat) : Int))))] [(0, 18, .val (.int .i64 ((i : Int)))), (1, 19, .val (.int .i64 ((j : Int)))), (2, 20, .val (.int .i64 (((i + j : Nat) : Int)))), (3, 21, .val (.int .u64 (((i + j : Nat) : Int)))), (4, 22, .val (.int .u64 ((((i + j) / 2 : Nat) : Int)))), (5, 23, .val (.int .i64 ((((i + j) / 2 : Nat) : Int)))), (6, 11, .val (.int .i64 ((((i + j) / 2 : Nat) : Int))))] [⟨g1_0, none, none, (), 7, msc (key) (T.zero), msc (key) (T.zero), 36⟩] rfl (by rfl) HH4 rfl rfl hLo rfl HS4 (slS 0 rfl rfl (slS 1 rfl rfl (slS 2 rfl rfl (slS 3 rfl rfl (slS 4 rfl rfl (slS 5 rfl rfl (slS 6 rfl rfl (slS 7 rfl rfl (slS 8 rfl rfl (slS 9 rfl rfl (slL 6 (d := 6) rfl (trivial)))))))))))) ?_ ?_
    · show ∀ i ∈ [0, 1, 2, 3, 4, 5, 6], _
      refine zA (zC 0 _ rfl rfl hLo rfl rfl (fun _ _ _ _ => rfl) (fun b G w hb ho => zD (.inl rfl) (zG rfl (HS4.get 7 rfl)))) ?_
      refine zA (zC 1 _ rfl rfl hLo rfl rfl (fun _ _ _ _ => rfl) (fun b G w hb ho => zD (.inl rfl) (zG rfl (HS4.get 8 rfl)))) ?_
      refine zA (zC 2 _ rfl rfl hLo rfl rfl (fun _ _ _ _ => rfl) (fun b G w hb ho => zJ rfl (zB hLo 0 rfl HS4.1 rfl (hb 0 (by rfl))) (zB hLo 1 rfl HS4.1 rfl (hb 1 (by rfl))) (rb_add (w_nat (by omega) (by omega)) _ _ _))) ?_
      refine zA (zC 3 _ rfl rfl hLo rfl rfl (fun _ _ _ _ => rfl) (fun b G w hb ho => exec_convert rfl (zB hLo 2 rfl HS4.1 rfl (hb 2 (by rfl))) (conv_iu (by omega) _))) ?_
      refine zA (zC 4 _ rfl rfl hLo rfl rfl (fun _ _ _ _ => rfl) (fun b G w hb ho => zJ rfl (zB hLo 3 rfl HS4.1 rfl (hb 3 (by rfl))) rfl (shr_one (by omega) _ _ _))) ?_
      refine zA (zC 5 _ rfl rfl hLo rfl rfl (fun _ _ _ _ => rfl) (fun b G w hb ho => exec_convert rfl (zB hLo 4 rfl HS4.1 rfl (hb 4 (by rfl))) (conv_ui (by omega) _))) ?_
      refine zA (zC 6 _ rfl rfl hLo rfl rfl (fun _ _ _ _ => rfl) (fun b G w hb ho => zD (.inr rfl) (zB hLo 5 rfl HS4.1 rfl (hb 5 (by rfl))))) ?_
      exact zF
    clear hLo
    intro G a7 w7 hS hH
    have HS7 : Sl a7 49 [(0, .slice (t.xm) (t.ml) (t.cm)), (1, .agg (FR () 7 (msc (key) (T.zero)))), (2, .func (.func 28) #[] #[]), (4, .pointer (some ⟨g1_0, 0, none⟩)), (6, .int .i64 (0)), (7, .bool false), (8, .int .i64 ((t.ml : Int))), (9, .int .i64 ((i : Int))), (10, .int .i64 ((j : Int))), (17, .bool true), (11, .int .i64 ((((i + j) / 2 : Nat) : Int)))] := hS
    have HH7 : Held w w7 [⟨g1_0, (), 7, msc (key) (T.zero), 36⟩] := hH
    clear hS hH HS4 HH4
    refine then_ ?_
    obtain ⟨⟨a1, hx1, hk1, hv1⟩, _, _⟩ := (hIn).mems (i := (i + j) / 2) (by omega)
    obtain ⟨r4, hr4⟩ : ∃ r : Bool, (decide ((cmpB (bl ((t).key ((i + j) / 2))) (bl (key)) : Int) < 0)) = r := ⟨_, rfl⟩
    refine wp_seq ?_
    have hLo : LOk [(0, 24, .val (.func (.func 28) #[] #[])), (1, 25, .val (.slice (t.xm) (t.ml) (t.cm))), (2, 26, .val (.int .i64 ((((i + j) / 2 : Nat) : Int)))), (3, 27, .val (.pointer (some (a1.add ((i + j) / 2 * 7))))), (4, 28, .val (.agg (FR () 7 (msc ((t).key ((i + j) / 2)) ((t).mem ((i + j) / 2)))))), (5, 29, .val (.agg (FR () 7 (msc (key) (T.zero))))), (6, 30, .val (.int .i64 (cmpB (bl ((t).key ((i + j) / 2))) (bl (key))))), (7, 31, .val (.bool r4))] := lok (by rfl) (by rfl)
    refine region_ (wE := w) (sz := 49) (n := 8) (B := [0, 0, 0, 6, 14, 0, 63, 127]) [0, 1, 2, 3, 4, 5, 6, 7] [(0, .val (.slice (t.xm) (t.ml) (t.cm))), (1, .val (.agg (FR () 7 (msc (key) (T.zero))))), (2, .val (.func (.func 28) #[] #[])), (4, .val (.pointer (some ⟨g1_0, 0, none⟩))), (6, .val (.int .i64 (0))), (7, .val (.bool false)), (8, .val (.int .i64 ((t.ml : Int)))), (9, .val (.int .i64 ((i : Int)))), (10, .val (.int .i64 ((j : Int)))), (17, .val (.bool true)), (11, .val (.int .i64 ((((i + j) / 2 : Nat) : Int)))), (31, .val (.bool r4))] [(0, 24, .val (.func (.func 28) #[] #[])), (1, 25, .val (.slice (t.xm) (t.ml) (t.cm))), (2, 26, .val (.int .i64 ((((i + j) / 2 : Nat) : Int)))), (3, 27, .val (.pointer (some (a1.add ((i + j) / 2 * 7))))), (4, 28, .val (.agg (FR () 7 (msc ((t).key ((i + j) / 2)) ((t).mem ((i + j) / 2)))))), (5, 29, .val (.agg (FR () 7 (msc (key) (T.zero))))), (6, 30, .val (.int .i64 (cmpB (bl ((t).key ((i + j) / 2))) (bl (key))))), (7, 31, .val (.bool r4))] [⟨g1_0, none, none, (), 7, msc (key) (T.zero), msc (key) (T.zero), 36⟩] (by rfl) rfl tabbs_5 bitsbs_5 (by kernel_rfl) (by kernel_rfl) HH7 rfl rfl hLo rfl HS7 (slS 0 rfl rfl (slS 1 rfl rfl (slS 2 rfl rfl (slS 3 rfl rfl (slS 4 rfl rfl (slS 5 rfl rfl (slS 6 rfl rfl (slS 7 rfl rfl (slS 8 rfl rfl (slS 9 rfl rfl (slS 10 rfl rfl (slL 7 (d := 7) rfl (trivial))))))))))))) ?_ ?_
    · show ∀ i ∈ [0, 1, 2, 3, 4, 5, 6, 7], _
      refine zA (zC 0 _ rfl rfl hLo rfl rfl (fun _ _ _ _ => rfl) (fun b G w hb ho => zD (.inl rfl) (zG rfl (HS7.get 2 rfl)))) ?_
      refine zA (zC 1 _ rfl rfl hLo rfl rfl (fun _ _ _ _ => rfl) (fun b G w hb ho => zD (.inl rfl) (zG rfl (HS7.get 0 rfl)))) ?_
      refine zA (zC 2 _ rfl rfl hLo rfl rfl (fun _ _ _ _ => rfl) (fun b G w hb ho => zD (.inl rfl) (zG rfl (HS7.get 10 rfl)))) ?_
      refine zA (zC 3 _ rfl rfl hLo rfl rfl (fun _ _ _ _ => rfl) (fun b G w hb ho => zU rfl (zB hLo 1 rfl HS7.1 rfl (hb 1 (by rfl))) (zB hLo 2 rfl HS7.1 rfl (hb 2 (by rfl))) (index_sl Tryd.underlying23 (by kernel_rfl) hx1 (by omega) _))) ?_
      refine zA (st_at 4 (a1.add ((i + j) / 2 * 7)) rfl rfl rfl (fun _ _ _ _ => rfl) hLo rfl rfl Tryd.underlying36 (by kernel_rfl) rfl (at7 hk1 hv1) (fun b G hb ho => zB hLo 3 rfl HS7.1 rfl (hb 3 (by rfl)))) ?_
      refine zA (st_row0 5 0 _ rfl rfl rfl rfl (fun _ _ _ _ => rfl) hLo rfl rfl rfl (by rfl) Tryd.underlying36 (by kernel_rfl) rfl (fun b G hb ho => zG rfl (HS7.get 3 rfl))) ?_
      refine zA (st_callV 6 _ #[.agg (FR () 7 (msc ((t).key ((i + j) / 2)) ((t).mem ((i + j) / 2)))), .agg (FR () 7 (msc (key) (T.zero)))] #[] rfl rfl rfl (fun _ _ _ _ => rfl) hLo rfl rfl Tryd.func28 rfl rfl (fun b G hb ho => zB hLo 0 rfl HS7.1 rfl (hb 0 (by rfl))) (fun b G hb ho => args2 (zB hLo 4 rfl HS7.1 rfl (hb 4 (by rfl))) (zB hLo 5 rfl HS7.1 rfl (hb 5 (by rfl)))) (fun w hw => byKey_calls _ _ _ _ _)) ?_
      refine zA (zC 7 _ rfl rfl hLo rfl rfl (fun _ _ _ _ => rfl) (fun b G w hb ho => zJ rfl (zB hLo 6 rfl HS7.1 rfl (hb 6 (by rfl))) (rfl) (rb_lss hr4 _ _ _))) ?_
      exact zF
    clear hLo
    intro G a8 w8 hS hH
    have HS8 : Sl a8 49 [(0, .slice (t.xm) (t.ml) (t.cm)), (1, .agg (FR () 7 (msc (key) (T.zero)))), (2, .func (.func 28) #[] #[]), (4, .pointer (some ⟨g1_0, 0, none⟩)), (6, .int .i64 (0)), (7, .bool false), (8, .int .i64 ((t.ml : Int))), (9, .int .i64 ((i : Int))), (10, .int .i64 ((j : Int))), (17, .bool true), (11, .int .i64 ((((i + j) / 2 : Nat) : Int))), (31, .bool r4)] := hS
    have HH8 : Held w w8 [⟨g1_0, (), 7, msc (key) (T.zero), 36⟩] := hH
    clear hS hH HS7 HH7
    refine then_ ?_
    cases r4
    · skip
      refine wp_cond_false (HS8.get 11 rfl) ?_
      have hLo : LOk [(0, 34, .val (.int .i64 ((((i + j) / 2 : Nat) : Int)))), (1, 10, .val (.int .i64 ((((i + j) / 2 : Nat) : Int))))] := lok (by rfl) (by rfl)
      refine zK (wE := w) (sz := 49) (n := 2) [0, 1] [(0, .val (.slice (t.xm) (t.ml) (t.cm))), (1, .val (.agg (FR () 7 (msc (key) (T.zero))))), (2, .val (.func (.func 28) #[] #[])), (4, .val (.pointer (some ⟨g1_0, 0, none⟩))), (6, .val (.int .i64 (0))), (7, .val (.bool false)), (8, .val (.int .i64 ((t.ml : Int)))), (9, .val (.int .i64 ((i : Int)))), (17, .val (.bool true)), (11, .val (.int .i64 ((((i + j) / 2 : Nat) : Int)))), (31, .val (.bool false)), (10, .val (.int .i64 ((((i + j) / 2 : Nat) : Int))))] [(0, 34, .val (.int .i64 ((((i + j) / 2 : Nat) : Int)))), (1, 10, .val (.int .i64 ((((i + j) / 2 : Nat) : Int))))] [⟨g1_0, none, none, (), 7, msc (key) (T.zero), msc (key) (T.zero), 36⟩] rfl (by rfl) HH8 rfl rfl hLo rfl HS8 (slS 0 rfl rfl (slS 1 rfl rfl (slS 2 rfl rfl (slS 3 rfl rfl (slS 4 rfl rfl (slS 5 rfl rfl (slS 6 rfl rfl (slS 7 rfl rfl (slS 9 rfl rfl (slS 10 rfl rfl (slS 11 rfl rfl (slL 1 (d := 1) rfl (trivial))))))))))))) ?_ ?_
      · show ∀ i ∈ [0, 1], _
        refine zA (zC 0 _ rfl rfl hLo rfl rfl (fun _ _ _ _ => rfl) (fun b G w hb ho => zD (.inl rfl) (zG rfl (HS8.get 10 rfl)))) ?_
        refine zA (zC 1 _ rfl rfl hLo rfl rfl (fun _ _ _ _ => rfl) (fun b G w hb ho => zD (.inr rfl) (zB hLo 0 rfl HS8.1 rfl (hb 0 (by rfl))))) ?_
        exact zF
      clear hLo
      intro G a9 w9 hS hH
      have HS9 : Sl a9 49 [(0, .slice (t.xm) (t.ml) (t.cm)), (1, .agg (FR () 7 (msc (key) (T.zero)))), (2, .func (.func 28) #[] #[]), (4, .pointer (some ⟨g1_0, 0, none⟩)), (6, .int .i64 (0)), (7, .bool false), (8, .int .i64 ((t.ml : Int))), (9, .int .i64 ((i : Int))), (17, .bool true), (11, .int .i64 ((((i + j) / 2 : Nat) : Int))), (31, .bool false), (10, .int .i64 ((((i + j) / 2 : Nat) : Int)))] := hS
      have HH9 : Held w w9 [⟨g1_0, (), 7, msc (key) (T.zero), 36⟩] := hH
      clear hS hH HS8 HH8
      refine zT ?_
      refine then_ ?_
      have hSq0' : Sl _ 49 [(0, .slice (t.xm) (t.ml) (t.cm)), (1, .agg (FR () 7 (msc (key) (T.zero)))), (2, .func (.func 28) #[] #[]), (4, .pointer (some ⟨g1_0, 0, none⟩)), (6, .int .i64 (0)), (7, .bool false), (8, .int .i64 ((t.ml : Int))), (9, .int .i64 ((i : Int))), (10, .int .i64 ((((i + j) / 2 : Nat) : Int)))] := sl_keep HS9 [0, 1, 2, 3, 4, 5, 6, 7, 11] (by rfl)
      have hHq0' : Held w _ [⟨g1_0, (), 7, msc (key) (T.zero), 36⟩] := held_keep HH9 1 rfl
      exact ⟨⟨i, (i + j) / 2, hC.down hR (by omega) (by omega) (of_decide_eq_false hr4), hSq0', hHq0'⟩, by rw [(hSq0'.get 8 rfl), (hSq0'.get 7 rfl)]; show ((((i + j) / 2 : Nat) : Int)).toNat - (i : Int).toNat < j - i; omega⟩
    · skip
      refine wp_cond_true (HS8.get 11 rfl) ?_
      have hLo : LOk [(0, 32, .val (.int .i64 ((((i + j) / 2 : Nat) : Int)))), (1, 33, .val (.int .i64 ((((i + j) / 2 + 1 : Nat) : Int)))), (2, 9, .val (.int .i64 ((((i + j) / 2 + 1 : Nat) : Int))))] := lok (by rfl) (by rfl)
      refine zK (wE := w) (sz := 49) (n := 3) [0, 1, 3] [(0, .val (.slice (t.xm) (t.ml) (t.cm))), (1, .val (.agg (FR () 7 (msc (key) (T.zero))))), (2, .val (.func (.func 28) #[] #[])), (4, .val (.pointer (some ⟨g1_0, 0, none⟩))), (6, .val (.int .i64 (0))), (7, .val (.bool false)), (8, .val (.int .i64 ((t.ml : Int)))), (10, .val (.int .i64 ((j : Int)))), (17, .val (.bool true)), (11, .val (.int .i64 ((((i + j) / 2 : Nat) : Int)))), (31, .val (.bool true)), (9, .val (.int .i64 ((((i + j) / 2 + 1 : Nat) : Int))))] [(0, 32, .val (.int .i64 ((((i + j) / 2 : Nat) : Int)))), (1, 33, .val (.int .i64 ((((i + j) / 2 + 1 : Nat) : Int)))), (2, 9, .val (.int .i64 ((((i + j) / 2 + 1 : Nat) : Int))))] [⟨g1_0, none, none, (), 7, msc (key) (T.zero), msc (key) (T.zero), 36⟩] rfl (by rfl) HH8 rfl rfl hLo rfl HS8 (slS 0 rfl rfl (slS 1 rfl rfl (slS 2 rfl rfl (slS 3 rfl rfl (slS 4 rfl rfl (slS 5 rfl rfl (slS 6 rfl rfl (slS 8 rfl rfl (slS 9 rfl rfl (slS 10 rfl rfl (slS 11 rfl rfl (slL 2 (d := 2) rfl (trivial))))))))))))) ?_ ?_
      · show ∀ i ∈ [0, 1, 2], _
        refine zA (zC 0 _ rfl rfl hLo rfl rfl (fun _ _ _ _ => rfl) (fun b G w hb ho => zD (.inl rfl) (zG rfl (HS8.get 10 rfl)))) ?_
        refine zA (zC 1 _ rfl rfl hLo rfl rfl (fun _ _ _ _ => rfl) (fun b G w hb ho => zJ rfl (zB hLo 0 rfl HS8.1 rfl (hb 0 (by rfl))) (rfl) (rb_add (w_nat (by omega) (by omega)) _ _ _))) ?_
        refine zA (zC 2 _ rfl rfl hLo rfl rfl (fun _ _ _ _ => rfl) (fun b G w hb ho => zD (.inr rfl) (zB hLo 1 rfl HS8.1 rfl (hb 1 (by rfl))))) ?_
        exact zF
      clear hLo
      intro G a10 w10 hS hH
      have HS10 : Sl a10 49 [(0, .slice (t.xm) (t.ml) (t.cm)), (1, .agg (FR () 7 (msc (key) (T.zero)))), (2, .func (.func 28) #[] #[]), (4, .pointer (some ⟨g1_0, 0, none⟩)), (6, .int .i64 (0)), (7, .bool false), (8, .int .i64 ((t.ml : Int))), (10, .int .i64 ((j : Int))), (17, .bool true), (11, .int .i64 ((((i + j) / 2 : Nat) : Int))), (31, .bool true), (9, .int .i64 ((((i + j) / 2 + 1 : Nat) : Int)))] := hS
      have HH10 : Held w w10 [⟨g1_0, (), 7, msc (key) (T.zero), 36⟩] := hH
      clear hS hH HS8 HH8
      refine zT ?_
      refine then_ ?_
      have hSq0' : Sl _ 49 [(0, .slice (t.xm) (t.ml) (t.cm)), (1, .agg (FR () 7 (msc (key) (T.zero)))), (2, .func (.func 28) #[] #[]), (4, .pointer (some ⟨g1_0, 0, none⟩)), (6, .int .i64 (0)), (7, .bool false), (8, .int .i64 ((t.ml : Int))), (9, .int .i64 ((((i + j) / 2 + 1 : Nat) : Int))), (10, .int .i64 ((j : Int)))] := sl_keep HS10 [0, 1, 2, 3, 4, 5, 6, 11, 7] (by rfl)
      have hHq0' : Held w _ [⟨g1_0, (), 7, msc (key) (T.zero), 36⟩] := held_keep HH10 1 rfl
      exact ⟨⟨(i + j) / 2 + 1, j, hC.up hR (by omega) (by omega) (of_decide_eq_true hr4), hSq0', hHq0'⟩, by rw [(hSq0'.get 8 rfl), (hSq0'.get 7 rfl)]; show (j : Int).toNat - ((((i + j) / 2 + 1 : Nat) : Int)).toNat < j - i; omega⟩
theorem cut_low {K : Nat → ByteArray} {key : ByteArray} : ∀ {n : Nat}, (Rise n fun k => bl (K k)) → Cut n (fun k => bl (K k)) (bl key) (lowK K key n) (lowK K key n)
  | 0, _ => ⟨Nat.le_refl _, Nat.le_refl _, fun k h => absurd h (Nat.not_lt_zero _), fun k _ h => absurd h (Nat.not_lt_zero _)⟩
  | n + 1, hr => by
    unfold lowK
    by_cases h : cmpB (bl (K n)) (bl key) < 0
    · rw [if_pos h]
      refine ⟨Nat.le_refl _, Nat.le_refl _, fun k hk => ?_, fun k h1 h2 => by omega⟩
      by_cases e : k = n
      · subst e; exact h
      · exact cmpB_trans (hr.lt n k (by omega) (by omega)) (Int.le_of_lt h)
    · rw [if_neg h]
      obtain ⟨a, b, c, d⟩ := cut_low (n := n) (key := key) (fun i hi => hr i (by omega))
      refine ⟨a, by omega, c, fun k h1 h2 => ?_⟩
      by_cases e : k = n
      · subst e; exact h
      · exact d k h1 (by omega)
theorem look_low {K : Nat → ByteArray} {key : ByteArray} {n : Nat} (hr : Rise n fun k => bl (K k)) (h : (look K key n).isSome = true) : look K key n = some (lowK K key n) ∧ lowK K key n < n := by
  have hc := (cut_low (key := key) hr).look hr
  rw [hc] at h ⊢
  by_cases q : lowK K key n < n ∧ K (lowK K key n) = key
  · rw [if_pos q]; exact ⟨rfl, q.1⟩
  · rw [if_neg q] at h; cases h
theorem get_ret_none {t : T} {key : ByteArray} (h : t.get key = none) : Ending.returned (.tuple #[.agg (FR () 6 T.zero.sc), .bool false]) = .returned (.tuple #[(t.tbl key).val, .bool (t.get key).isSome]) := by
  unfold T.tbl; rw [h]; rfl
theorem get_ret_some {t x : T} {key : ByteArray} (h : t.get key = some x) : Ending.returned (.tuple #[.agg (FR () 6 x.sc), .bool true]) = .returned (.tuple #[(t.tbl key).val, .bool (t.get key).isSome]) := by
  unfold T.tbl; rw [h]; rfl
theorem get_no1 {t : T} {key : ByteArray} (h : ((t.kind : Int) != 5) = true) : t.get key = none := T.get_kind (by simpa using h)
theorem get_no2 {t : T} {key : ByteArray} (h : (look t.key key t.ml).isSome = false) : t.get key = none := by
  unfold T.get
  split
  · rw [Option.isSome_eq_false_iff, Option.isNone_iff_eq_none] at h; rw [h]; rfl
  · rfl
theorem get_yes {t : T} {key : ByteArray} (hr : Rise t.ml fun k => bl (t.key k)) (h1 : ((t.kind : Int) != 5) = false) (h2 : (look t.key key t.ml).isSome = true) : t.get key = some (t.mem (lowK t.key key t.ml)) := by
  unfold T.get
  rw [if_pos (by simpa using h1), (look_low hr h2).1]; rfl
theorem find_calls {w : World} {t : T} (key : ByteArray) (hIn : In w t) (hR : Rise t.ml fun k => bl (t.key k)) : Calls Tryd.prog 17 #[.slice (t.xm) (t.ml) (t.cm), .string (key)] w fun e w' => e = .returned (.tuple #[.int .i64 (lowK t.key key t.ml : Int), .bool (look t.key key t.ml).isSome]) ∧ Below w.heap.size w w' := by
  refine enter_ 12 Tryd.func17 rfl rfl (fun a0 hS => ?_)
  have HS0 : Sl a0 12 [(0, .slice (t.xm) (t.ml) (t.cm)), (1, .string (key))] := hS
  have HH0 : Held w w [] := Held.first w
  clear hS
  refine wp_seq ?_
  have hLo : LOk [(0, 4, .val (.int .i64 (0))), (1, 5, .val (.bool false))] := lok (by rfl) (by rfl)
  refine zK (wE := w) (sz := 12) (n := 2) [0, 1] [(0, .val (.slice (t.xm) (t.ml) (t.cm))), (1, .val (.string (key))), (4, .val (.int .i64 (0))), (5, .val (.bool false))] [(0, 4, .val (.int .i64 (0))), (1, 5, .val (.bool false))] [] rfl (by rfl) HH0 rfl rfl hLo rfl HS0 (slS 0 rfl rfl (slS 1 rfl rfl (slL 0 (d := 0) rfl (slL 1 (d := 1) rfl (trivial))))) ?_ ?_
  · show ∀ i ∈ [0, 1], _
    refine zA (zC 0 _ rfl rfl hLo rfl rfl (fun _ _ _ _ => rfl) (fun b G w hb ho => zD (.inr rfl) (rfl))) ?_
    refine zA (zC 1 _ rfl rfl hLo rfl rfl (fun _ _ _ _ => rfl) (fun b G w hb ho => zD (.inr rfl) (rfl))) ?_
    exact zF
  clear hLo
  intro G a1 w1 hS hH
  have HS1 : Sl a1 12 [(0, .slice (t.xm) (t.ml) (t.cm)), (1, .string (key)), (4, .int .i64 (0)), (5, .bool false)] := hS
  have HH1 : Held w w1 [] := hH
  clear hS hH HS0 HH0
  refine then_ ?_
  refine wp_seq ?_
  have hLo : LOk [(0, 6, .val (.slice (t.xm) (t.ml) (t.cm))), (1, 7, .val (.string (key))), (2, 8, .val (.agg (FR () 7 (msc (key) (T.zero))))), (3, 9, .val (.tuple #[.int .i64 ((lowK t.key key t.ml : Int)), .bool ((look t.key key t.ml).isSome)])), (4, 10, .val (.int .i64 ((lowK t.key key t.ml : Int)))), (5, 11, .val (.bool ((look t.key key t.ml).isSome))), (6, 4, .val (.int .i64 ((lowK t.key key t.ml : Int)))), (7, 5, .val (.bool ((look t.key key t.ml).isSome)))] := lok (by rfl) (by rfl)
  refine zK (wE := w) (sz := 12) (n := 8) [0, 1, 3, 7, 15, 31, 63, 127] [(0, .val (.slice (t.xm) (t.ml) (t.cm))), (1, .val (.string (key))), (4, .val (.int .i64 ((lowK t.key key t.ml : Int)))), (5, .val (.bool ((look t.key key t.ml).isSome)))] [(0, 6, .val (.slice (t.xm) (t.ml) (t.cm))), (1, 7, .val (.string (key))), (2, 8, .val (.agg (FR () 7 (msc (key) (T.zero))))), (3, 9, .val (.tuple #[.int .i64 ((lowK t.key key t.ml : Int)), .bool ((look t.key key t.ml).isSome)])), (4, 10, .val (.int .i64 ((lowK t.key key t.ml : Int)))), (5, 11, .val (.bool ((look t.key key t.ml).isSome))), (6, 4, .val (.int .i64 ((lowK t.key key t.ml : Int)))), (7, 5, .val (.bool ((look t.key key t.ml).isSome)))] [] rfl (by rfl) HH1 rfl rfl hLo rfl HS1 (slS 0 rfl rfl (slS 1 rfl rfl (slL 6 (d := 6) rfl (slL 7 (d := 7) rfl (trivial))))) ?_ ?_
  · show ∀ i ∈ [0, 1, 2, 3, 4, 5, 6, 7], _
    refine zA (zC 0 _ rfl rfl hLo rfl rfl (fun _ _ _ _ => rfl) (fun b G w hb ho => zD (.inl rfl) (zG rfl (HS1.get 0 rfl)))) ?_
    refine zA (zC 1 _ rfl rfl hLo rfl rfl (fun _ _ _ _ => rfl) (fun b G w hb ho => zD (.inl rfl) (zG rfl (HS1.get 1 rfl)))) ?_
    refine zA (zC 2 _ rfl rfl hLo rfl rfl (fun _ _ _ _ => rfl) (fun b G w hb ho => exec_build rfl (parts1 (zB hLo 1 rfl HS1.1 rfl (hb 1 (by rfl)))) (by kernel_rfl))) ?_
    refine zA (st_call 3 _ #[.slice (t.xm) (t.ml) (t.cm), .agg (FR () 7 (msc (key) (T.zero))), .func (.func 28) #[] #[]] rfl rfl rfl (fun _ _ _ _ => rfl) hLo rfl rfl Tryd.func27 rfl rfl (fun b G hb ho => args3 (zB hLo 0 rfl HS1.1 rfl (hb 0 (by rfl))) (zB hLo 2 rfl HS1.1 rfl (hb 2 (by rfl))) (rfl)) (fun w hw => bs_calls _ (hIn.below hw) hR)) ?_
    refine zA (zC 4 _ rfl rfl hLo rfl rfl (fun _ _ _ _ => rfl) (fun b G w hb ho => exec_extract rfl (zB hLo 3 rfl HS1.1 rfl (hb 3 (by rfl))) (by rfl))) ?_
    refine zA (zC 5 _ rfl rfl hLo rfl rfl (fun _ _ _ _ => rfl) (fun b G w hb ho => exec_extract rfl (zB hLo 3 rfl HS1.1 rfl (hb 3 (by rfl))) (by rfl))) ?_
    refine zA (zC 6 _ rfl rfl hLo rfl rfl (fun _ _ _ _ => rfl) (fun b G w hb ho => zD (.inr rfl) (zB hLo 4 rfl HS1.1 rfl (hb 4 (by rfl))))) ?_
    refine zA (zC 7 _ rfl rfl hLo rfl rfl (fun _ _ _ _ => rfl) (fun b G w hb ho => zD (.inr rfl) (zB hLo 5 rfl HS1.1 rfl (hb 5 (by rfl))))) ?_
    exact zF
  clear hLo
  intro G a2 w2 hS hH
  have HS2 : Sl a2 12 [(0, .slice (t.xm) (t.ml) (t.cm)), (1, .string (key)), (4, .int .i64 ((lowK t.key key t.ml : Int))), (5, .bool ((look t.key key t.ml).isSome))] := hS
  have HH2 : Held w w2 [] := hH
  clear hS hH HS1 HH1
  refine then_ ?_
  refine wp_ret ?_
  repeat (first | refine zS ?_ | refine zM ?_)
  exact b_tmp2 rfl HS2.2.1 (HS2.get 2 rfl) (HS2.get 3 rfl) ⟨rfl, HH2.1⟩
theorem get_calls {w : World} {t : T} (key : ByteArray) (hIn : In w t) (hR : Rise t.ml fun k => bl (t.key k)) : Calls Tryd.prog 8 #[.agg (FR () 6 ((t).sc)), .string (key)] w fun e w' => e = .returned (.tuple #[(t.tbl key).val, .bool (t.get key).isSome]) ∧ Below w.heap.size w w' := by
  refine enter_ 29 Tryd.func8 rfl rfl (fun a0 hS => ?_)
  have HS0 : Sl a0 29 [(0, .agg (FR () 6 ((t).sc))), (1, .string (key))] := hS
  have HH0 : Held w w [] := Held.first w
  clear hS
  refine wp_seq ?_
  have hLo : LOk [(0, 2, .new 0 (fun g => .pointer (some ⟨g, 0, none⟩))), (1, 4, .new 1 (fun g => .pointer (some ⟨g, 0, none⟩))), (2, 5, .val (.bool false))] := lok (by rfl) (by rfl)
  refine zK (wE := w) (sz := 29) (n := 3) [0, 1, 3] [(0, .val (.agg (FR () 6 ((t).sc)))), (1, .val (.string (key))), (2, .new 0 (fun g => .pointer (some ⟨g, 0, none⟩))), (4, .new 1 (fun g => .pointer (some ⟨g, 0, none⟩))), (5, .val (.bool false))] [(0, 2, .new 0 (fun g => .pointer (some ⟨g, 0, none⟩))), (1, 4, .new 1 (fun g => .pointer (some ⟨g, 0, none⟩))), (2, 5, .val (.bool false))] [⟨0, some 0, none, (), 6, (t).sc, (t).sc, 25⟩, ⟨0, some 1, none, (), 6, lsc [.i .i64 (0), .b (false), .i .i64 (0), .s (ByteArray.empty), .sl (none) (0) (0), .sl (none) (0) (0)], lsc [.i .i64 (0), .b (false), .i .i64 (0), .s (ByteArray.empty), .sl (none) (0) (0), .sl (none) (0) (0)], 25⟩] rfl (by rfl) HH0 rfl rfl hLo rfl HS0 (slS 0 rfl rfl (slS 1 rfl rfl (slL 0 (d := 0) rfl (slL 1 (d := 1) rfl (slL 2 (d := 2) rfl (trivial)))))) ?_ ?_
  · show ∀ i ∈ [0, 1, 2], _
    refine zA (st_alloc 0 0 () 6 25 none _ _ rfl rfl (fun _ _ _ _ => rfl) rfl hLo rfl rfl rfl rfl (by rfl) (fun b G w hb ho => exec_box rfl (zG rfl (HS0.get 0 rfl)) (by kernel_rfl))) ?_
    refine zA (st_alloc 1 1 () 6 25 none _ _ rfl rfl (fun _ _ _ _ => rfl) rfl hLo rfl rfl rfl rfl (by rfl) (fun b G w _ _ => by kernel_rfl)) ?_
    refine zA (zC 2 _ rfl rfl hLo rfl rfl (fun _ _ _ _ => rfl) (fun b G w hb ho => zD (.inr rfl) (rfl))) ?_
    exact zF
  clear hLo
  intro G a1 w1 hS hH
  have HS1 : Sl a1 29 [(0, .agg (FR () 6 ((t).sc))), (1, .string (key)), (2, .pointer (some ⟨(G 0), 0, none⟩)), (4, .pointer (some ⟨(G 1), 0, none⟩)), (5, .bool false)] := hS
  have HH1 : Held w w1 [⟨(G 0), (), 6, (t).sc, 25⟩, ⟨(G 1), (), 6, lsc [.i .i64 (0), .b (false), .i .i64 (0), .s (ByteArray.empty), .sl (none) (0) (0), .sl (none) (0) (0)], 25⟩] := hH
  clear hS hH HS0 HH0
  generalize G 0 = g1_0 at HS1 HH1
  generalize G 1 = g1_1 at HS1 HH1
  refine then_ ?_
  obtain ⟨r1, hr1⟩ : ∃ r : Bool, ((look t.key key t.ml).isSome) = r := ⟨_, rfl⟩
  refine wp_seq ?_
  have hLo : LOk [(0, 9, .val (.pointer (some ⟨g1_0, 5, none⟩))), (1, 10, .val (.slice ((t).xm) ((t).ml) ((t).cm))), (2, 11, .val (.string (key))), (3, 12, .val (.tuple #[.int .i64 ((lowK t.key key t.ml : Int)), .bool r1])), (4, 8, .val (.tuple #[.int .i64 ((lowK t.key key t.ml : Int)), .bool r1])), (5, 13, .val (.int .i64 ((lowK t.key key t.ml : Int)))), (6, 14, .val (.bool r1)), (7, 6, .val (.int .i64 ((lowK t.key key t.ml : Int)))), (8, 7, .val (.bool r1))] := lok (by rfl) (by rfl)
  refine zK (wE := w) (sz := 29) (n := 9) [0, 1, 3, 7, 15, 31, 63, 127, 255] [(0, .val (.agg (FR () 6 ((t).sc)))), (1, .val (.string (key))), (2, .val (.pointer (some ⟨g1_0, 0, none⟩))), (4, .val (.pointer (some ⟨g1_1, 0, none⟩))), (5, .val (.bool false)), (6, .val (.int .i64 ((lowK t.key key t.ml : Int)))), (7, .val (.bool r1))] [(0, 9, .val (.pointer (some ⟨g1_0, 5, none⟩))), (1, 10, .val (.slice ((t).xm) ((t).ml) ((t).cm))), (2, 11, .val (.string (key))), (3, 12, .val (.tuple #[.int .i64 ((lowK t.key key t.ml : Int)), .bool r1])), (4, 8, .val (.tuple #[.int .i64 ((lowK t.key key t.ml : Int)), .bool r1])), (5, 13, .val (.int .i64 ((lowK t.key key t.ml : Int)))), (6, 14, .val (.bool r1)), (7, 6, .val (.int .i64 ((lowK t.key key t.ml : Int)))), (8, 7, .val (.bool r1))] [⟨g1_0, none, none, (), 6, (t).sc, (t).sc, 25⟩, ⟨g1_1, none, none, (), 6, lsc [.i .i64 (0), .b (false), .i .i64 (0), .s (ByteArray.empty), .sl (none) (0) (0), .sl (none) (0) (0)], lsc [.i .i64 (0), .b (false), .i .i64 (0), .s (ByteArray.empty), .sl (none) (0) (0), .sl (none) (0) (0)], 25⟩] rfl (by rfl) HH1 rfl rfl hLo rfl HS1 (slS 0 rfl rfl (slS 1 rfl rfl (slS 2 rfl rfl (slS 3 rfl rfl (slS 4 rfl rfl (slL 7 (d := 7) rfl (slL 8 (d := 8) rfl (trivial)))))))) ?_ ?_
  · show ∀ i ∈ [0, 1, 2, 3, 4, 5, 6, 7, 8], _
    refine zA (zC 0 _ rfl rfl hLo rfl rfl (fun _ _ _ _ => rfl) (fun b G w hb ho => zH rfl (zG rfl (HS1.get 2 rfl)) (by kernel_rfl))) ?_
    refine zA (zW 1 0 _ _ rfl rfl rfl hLo rfl rfl (fun _ _ _ _ => rfl) (by rfl) (by rfl) (fun b G w hb ho hr => zP hr (Nat.le_of_ble_eq_true rfl) Tryd.underlying23 rfl rfl (zB hLo 0 rfl HS1.1 rfl (hb 0 (by rfl))))) ?_
    refine zA (zC 2 _ rfl rfl hLo rfl rfl (fun _ _ _ _ => rfl) (fun b G w hb ho => zD (.inl rfl) (zG rfl (HS1.get 1 rfl)))) ?_
    refine zA (st_call 3 _ #[.slice ((t).xm) ((t).ml) ((t).cm), .string (key)] rfl rfl rfl (fun _ _ _ _ => rfl) hLo rfl rfl Tryd.func17 rfl rfl (fun b G hb ho => args2 (zB hLo 1 rfl HS1.1 rfl (hb 1 (by rfl))) (zB hLo 2 rfl HS1.1 rfl (hb 2 (by rfl)))) (fun w hw => (by have hq := find_calls key (hIn.below hw) hR; rw [hr1] at hq; exact hq))) ?_
    refine zA (zC 4 _ rfl rfl hLo rfl rfl (fun _ _ _ _ => rfl) (fun b G w hb ho => zD (.inl rfl) (zB hLo 3 rfl HS1.1 rfl (hb 3 (by rfl))))) ?_
    refine zA (zC 5 _ rfl rfl hLo rfl rfl (fun _ _ _ _ => rfl) (fun b G w hb ho => exec_extract rfl (zB hLo 4 rfl HS1.1 rfl (hb 4 (by rfl))) (by rfl))) ?_
    refine zA (zC 6 _ rfl rfl hLo rfl rfl (fun _ _ _ _ => rfl) (fun b G w hb ho => exec_extract rfl (zB hLo 4 rfl HS1.1 rfl (hb 4 (by rfl))) (by rfl))) ?_
    refine zA (zC 7 _ rfl rfl hLo rfl rfl (fun _ _ _ _ => rfl) (fun b G w hb ho => zD (.inr rfl) (zB hLo 5 rfl HS1.1 rfl (hb 5 (by rfl))))) ?_
    refine zA (zC 8 _ rfl rfl hLo rfl rfl (fun _ _ _ _ => rfl) (fun b G w hb ho => zD (.inr rfl) (zB hLo 6 rfl HS1.1 rfl (hb 6 (by rfl))))) ?_
    exact zF
  clear hLo
  intro G a2 w2 hS hH
  have HS2 : Sl a2 29 [(0, .agg (FR () 6 ((t).sc))), (1, .string (key)), (2, .pointer (some ⟨g1_0, 0, none⟩)), (4, .pointer (some ⟨g1_1, 0, none⟩)), (5, .bool false), (6, .int .i64 ((lowK t.key key t.ml : Int))), (7, .bool r1)] := hS
  have HH2 : Held w w2 [⟨g1_0, (), 6, (t).sc, 25⟩, ⟨g1_1, (), 6, lsc [.i .i64 (0), .b (false), .i .i64 (0), .s (ByteArray.empty), .sl (none) (0) (0), .sl (none) (0) (0)], 25⟩] := hH
  clear hS hH HS1 HH1
  refine then_ ?_
  refine wp_seq ?_
  obtain ⟨r2, hr2⟩ : ∃ r : Bool, ((((t).kind : Int) != 5)) = r := ⟨_, rfl⟩
  cases r2
  · skip
    refine wp_seq ?_
    have hLo : LOk [(0, 15, .val (.pointer (some ⟨g1_0, 0, none⟩))), (1, 16, .val (.int .i64 ((t).kind))), (2, 17, .val (.bool false)), (3, 18, .val (.bool false)), (4, 19, .val (.bool r1)), (5, 20, .val (.bool (!r1))), (6, 21, .val (.bool (!r1)))] := lok (by rfl) (by rfl)
    refine zK (wE := w) (sz := 29) (n := 7) [0, 1, 3, 7, 15, 31, 63] [(0, .val (.agg (FR () 6 ((t).sc)))), (1, .val (.string (key))), (2, .val (.pointer (some ⟨g1_0, 0, none⟩))), (4, .val (.pointer (some ⟨g1_1, 0, none⟩))), (5, .val (.bool false)), (6, .val (.int .i64 ((lowK t.key key t.ml : Int)))), (7, .val (.bool r1)), (21, .val (.bool (!r1)))] [(0, 15, .val (.pointer (some ⟨g1_0, 0, none⟩))), (1, 16, .val (.int .i64 ((t).kind))), (2, 17, .val (.bool false)), (3, 18, .val (.bool false)), (4, 19, .val (.bool r1)), (5, 20, .val (.bool (!r1))), (6, 21, .val (.bool (!r1)))] [⟨g1_0, none, none, (), 6, (t).sc, (t).sc, 25⟩, ⟨g1_1, none, none, (), 6, lsc [.i .i64 (0), .b (false), .i .i64 (0), .s (ByteArray.empty), .sl (none) (0) (0), .sl (none) (0) (0)], lsc [.i .i64 (0), .b (false), .i .i64 (0), .s (ByteArray.empty), .sl (none) (0) (0), .sl (none) (0) (0)], 25⟩] rfl (by rfl) HH2 rfl rfl hLo rfl HS2 (slS 0 rfl rfl (slS 1 rfl rfl (slS 2 rfl rfl (slS 3 rfl rfl (slS 4 rfl rfl (slS 5 rfl rfl (slS 6 rfl rfl (slL 6 (d := 6) rfl (trivial))))))))) ?_ ?_
    · show ∀ i ∈ [0, 1, 2, 3, 4, 5, 6], _
      refine zA (zC 0 _ rfl rfl hLo rfl rfl (fun _ _ _ _ => rfl) (fun b G w hb ho => zH rfl (zG rfl (HS2.get 2 rfl)) (by kernel_rfl))) ?_
      refine zA (zW 1 0 _ _ rfl rfl rfl hLo rfl rfl (fun _ _ _ _ => rfl) (by rfl) (by rfl) (fun b G w hb ho hr => zP hr (Nat.le_of_ble_eq_true rfl) Tryd.underlying3 rfl rfl (zB hLo 0 rfl HS2.1 rfl (hb 0 (by rfl))))) ?_
      refine zA (zC 2 _ rfl rfl hLo rfl rfl (fun _ _ _ _ => rfl) (fun b G w hb ho => zJ rfl (zB hLo 1 rfl HS2.1 rfl (hb 1 (by rfl))) (rfl) (rb_neq hr2 _ _ _))) ?_
      refine zA (zC 3 _ rfl rfl hLo rfl rfl (fun _ _ _ _ => rfl) (fun b G w hb ho => zD (.inl rfl) (zB hLo 2 rfl HS2.1 rfl (hb 2 (by rfl))))) ?_
      refine zA (zC 4 _ rfl rfl hLo rfl rfl (fun b G hb ho => zE rfl rfl rfl HS2.1 rfl (zB hLo 3 rfl HS2.1 rfl (hb 3 (by rfl))) rfl) (fun b G w hb ho => zD (.inl rfl) (zG rfl (HS2.get 6 rfl)))) ?_
      refine zA (zC 5 _ rfl rfl hLo rfl rfl (fun b G hb ho => zE rfl rfl rfl HS2.1 rfl (zB hLo 3 rfl HS2.1 rfl (hb 3 (by rfl))) rfl) (fun b G w hb ho => exec_un rfl (zB hLo 4 rfl HS2.1 rfl (hb 4 (by rfl))) (ru_not _))) ?_
      refine zA (zC 6 _ rfl rfl hLo rfl rfl (fun _ _ _ _ => rfl) (fun b G w hb ho => zO rfl (zB hLo 3 rfl HS2.1 rfl (hb 3 (by rfl))) (zB hLo 5 rfl HS2.1 rfl (hb 5 (by rfl))))) ?_
      exact zF
    clear hLo
    intro G a3 w3 hS hH
    have HS3 : Sl a3 29 [(0, .agg (FR () 6 ((t).sc))), (1, .string (key)), (2, .pointer (some ⟨g1_0, 0, none⟩)), (4, .pointer (some ⟨g1_1, 0, none⟩)), (5, .bool false), (6, .int .i64 ((lowK t.key key t.ml : Int))), (7, .bool r1), (21, .bool (!r1))] := hS
    have HH3 : Held w w3 [⟨g1_0, (), 6, (t).sc, 25⟩, ⟨g1_1, (), 6, lsc [.i .i64 (0), .b (false), .i .i64 (0), .s (ByteArray.empty), .sl (none) (0) (0), .sl (none) (0) (0)], 25⟩] := hH
    clear hS hH HS2 HH2
    refine then_ ?_
    cases r1
    · skip
      refine wp_cond_true (HS3.get 7 rfl) ?_
      refine wp_seq ?_
      have hLo : LOk [(0, 22, .val (.agg (FR () 6 ((T.zero).sc)))), (2, 5, .val (.bool false))] := lok (by rfl) (by rfl)
      refine zK (wE := w) (sz := 29) (n := 3) [0, 1, 3] [(0, .val (.agg (FR () 6 ((t).sc)))), (1, .val (.string (key))), (2, .val (.pointer (some ⟨g1_0, 0, none⟩))), (4, .val (.pointer (some ⟨g1_1, 0, none⟩))), (6, .val (.int .i64 ((lowK t.key key t.ml : Int)))), (7, .val (.bool false)), (21, .val (.bool true)), (5, .val (.bool false))] [(0, 22, .val (.agg (FR () 6 ((T.zero).sc)))), (2, 5, .val (.bool false))] [⟨g1_0, none, none, (), 6, (t).sc, (t).sc, 25⟩, ⟨g1_1, none, some 1, (), 6, lsc [.i .i64 (0), .b (false), .i .i64 (0), .s (ByteArray.empty), .sl (none) (0) (0), .sl (none) (0) (0)], (T.zero).sc, 25⟩] rfl (by rfl) HH3 rfl rfl hLo rfl HS3 (slS 0 rfl rfl (slS 1 rfl rfl (slS 2 rfl rfl (slS 3 rfl rfl (slS 5 rfl rfl (slS 6 rfl rfl (slS 7 rfl rfl (slL 1 (d := 2) rfl (trivial))))))))) ?_ ?_
      · show ∀ i ∈ [0, 1, 2], _
        refine zA (zC 0 _ rfl rfl hLo rfl rfl (fun _ _ _ _ => rfl) (fun b G w hb ho => exec_build rfl (parts0 ) (by kernel_rfl))) ?_
        refine zA (st_store 1 _ rfl rfl rfl rfl rfl (fun _ _ _ _ => rfl) rfl rfl rfl (by rfl) (by kernel_rfl) (fun b G hb ho => zG rfl (HS3.get 3 rfl)) (fun b G hb ho => zB hLo 0 rfl HS3.1 rfl (hb 0 (by rfl)))) ?_
        refine zA (zC 1 _ rfl rfl hLo rfl rfl (fun _ _ _ _ => rfl) (fun b G w hb ho => zD (.inr rfl) (rfl))) ?_
        exact zF
      clear hLo
      intro G a4 w4 hS hH
      have HS4 : Sl a4 29 [(0, .agg (FR () 6 ((t).sc))), (1, .string (key)), (2, .pointer (some ⟨g1_0, 0, none⟩)), (4, .pointer (some ⟨g1_1, 0, none⟩)), (6, .int .i64 ((lowK t.key key t.ml : Int))), (7, .bool false), (21, .bool true), (5, .bool false)] := hS
      have HH4 : Held w w4 [⟨g1_0, (), 6, (t).sc, 25⟩, ⟨g1_1, (), 6, (T.zero).sc, 25⟩] := hH
      clear hS hH HS3 HH3
      refine then_ ?_
      refine wp_ret ?_
      repeat (first | refine zS ?_ | refine zM ?_)
      exact b_row2 rfl HS4.2.1 (HS4.get 3 rfl) (HS4.get 7 rfl) (HH4.row 1 rfl) Tryd.underlying25 rfl (by kernel_rfl) ⟨get_ret_none (get_no2 hr1), HH4.1⟩
    · skip
      refine wp_cond_false (HS3.get 7 rfl) ?_
      refine wp_skip ?_
      refine then_ ?_
      obtain ⟨⟨a1, hx1, hk1, hv1⟩, _, _⟩ := (hIn).mems (i := lowK t.key key t.ml) ((look_low hR hr1).2)
      refine wp_seq ?_
      have hLo : LOk [(0, 23, .val (.pointer (some ⟨g1_0, 5, none⟩))), (1, 24, .val (.slice ((t).xm) ((t).ml) ((t).cm))), (2, 25, .val (.int .i64 ((lowK t.key key t.ml : Int)))), (3, 26, .val (.pointer (some (a1.add (lowK t.key key t.ml * 7))))), (4, 27, .val (.pointer (some ((a1.add (lowK t.key key t.ml * 7)).add 1)))), (5, 28, .val (.agg (FR () 6 (((t).mem (lowK t.key key t.ml)).sc)))), (7, 5, .val (.bool true))] := lok (by rfl) (by rfl)
      refine zK (wE := w) (sz := 29) (n := 8) [0, 1, 3, 7, 15, 31, 63, 127] [(0, .val (.agg (FR () 6 ((t).sc)))), (1, .val (.string (key))), (2, .val (.pointer (some ⟨g1_0, 0, none⟩))), (4, .val (.pointer (some ⟨g1_1, 0, none⟩))), (6, .val (.int .i64 ((lowK t.key key t.ml : Int)))), (7, .val (.bool true)), (21, .val (.bool false)), (25, .val (.int .i64 ((lowK t.key key t.ml : Int)))), (5, .val (.bool true))] [(0, 23, .val (.pointer (some ⟨g1_0, 5, none⟩))), (1, 24, .val (.slice ((t).xm) ((t).ml) ((t).cm))), (2, 25, .val (.int .i64 ((lowK t.key key t.ml : Int)))), (3, 26, .val (.pointer (some (a1.add (lowK t.key key t.ml * 7))))), (4, 27, .val (.pointer (some ((a1.add (lowK t.key key t.ml * 7)).add 1)))), (5, 28, .val (.agg (FR () 6 (((t).mem (lowK t.key key t.ml)).sc)))), (7, 5, .val (.bool true))] [⟨g1_0, none, none, (), 6, (t).sc, (t).sc, 25⟩, ⟨g1_1, none, some 6, (), 6, lsc [.i .i64 (0), .b (false), .i .i64 (0), .s (ByteArray.empty), .sl (none) (0) (0), .sl (none) (0) (0)], ((t).mem (lowK t.key key t.ml)).sc, 25⟩] rfl (by rfl) HH3 rfl rfl hLo rfl HS3 (slS 0 rfl rfl (slS 1 rfl rfl (slS 2 rfl rfl (slS 3 rfl rfl (slS 5 rfl rfl (slS 6 rfl rfl (slS 7 rfl rfl (slL 2 (d := 2) rfl (slL 6 (d := 7) rfl (trivial)))))))))) ?_ ?_
      · show ∀ i ∈ [0, 1, 2, 3, 4, 5, 6, 7], _
        refine zA (zC 0 _ rfl rfl hLo rfl rfl (fun _ _ _ _ => rfl) (fun b G w hb ho => zH rfl (zG rfl (HS3.get 2 rfl)) (by kernel_rfl))) ?_
        refine zA (zW 1 0 _ _ rfl rfl rfl hLo rfl rfl (fun _ _ _ _ => rfl) (by rfl) (by rfl) (fun b G w hb ho hr => zP hr (Nat.le_of_ble_eq_true rfl) Tryd.underlying23 rfl rfl (zB hLo 0 rfl HS3.1 rfl (hb 0 (by rfl))))) ?_
        refine zA (zC 2 _ rfl rfl hLo rfl rfl (fun _ _ _ _ => rfl) (fun b G w hb ho => zD (.inl rfl) (zG rfl (HS3.get 5 rfl)))) ?_
        refine zA (zC 3 _ rfl rfl hLo rfl rfl (fun _ _ _ _ => rfl) (fun b G w hb ho => zU rfl (zB hLo 1 rfl HS3.1 rfl (hb 1 (by rfl))) (zB hLo 2 rfl HS3.1 rfl (hb 2 (by rfl))) (index_sl Tryd.underlying23 (by kernel_rfl) hx1 ((look_low hR hr1).2) _))) ?_
        refine zA (zC 4 _ rfl rfl hLo rfl rfl (fun _ _ _ _ => rfl) (fun b G w hb ho => zH rfl (zB hLo 3 rfl HS3.1 rfl (hb 3 (by rfl))) (by kernel_rfl))) ?_
        refine zA (st_at 5 ((a1.add (lowK t.key key t.ml * 7)).add 1) rfl rfl rfl (fun _ _ _ _ => rfl) hLo rfl rfl Tryd.underlying25 (by kernel_rfl) rfl (at7v hv1) (fun b G hb ho => zB hLo 4 rfl HS3.1 rfl (hb 4 (by rfl)))) ?_
        refine zA (st_store 1 _ rfl rfl rfl rfl rfl (fun _ _ _ _ => rfl) rfl rfl rfl (by rfl) (by kernel_rfl) (fun b G hb ho => zG rfl (HS3.get 3 rfl)) (fun b G hb ho => zB hLo 5 rfl HS3.1 rfl (hb 5 (by rfl)))) ?_
        refine zA (zC 6 _ rfl rfl hLo rfl rfl (fun _ _ _ _ => rfl) (fun b G w hb ho => zD (.inr rfl) (rfl))) ?_
        exact zF
      clear hLo
      intro G a5 w5 hS hH
      have HS5 : Sl a5 29 [(0, .agg (FR () 6 ((t).sc))), (1, .string (key)), (2, .pointer (some ⟨g1_0, 0, none⟩)), (4, .pointer (some ⟨g1_1, 0, none⟩)), (6, .int .i64 ((lowK t.key key t.ml : Int))), (7, .bool true), (21, .bool false), (25, .int .i64 ((lowK t.key key t.ml : Int))), (5, .bool true)] := hS
      have HH5 : Held w w5 [⟨g1_0, (), 6, (t).sc, 25⟩, ⟨g1_1, (), 6, ((t).mem (lowK t.key key t.ml)).sc, 25⟩] := hH
      clear hS hH HS3 HH3
      refine then_ ?_
      refine wp_ret ?_
      repeat (first | refine zS ?_ | refine zM ?_)
      exact b_row2 rfl HS5.2.1 (HS5.get 3 rfl) (HS5.get 8 rfl) (HH5.row 1 rfl) Tryd.underlying25 rfl (by kernel_rfl) ⟨get_ret_some (get_yes hR hr2 hr1), HH5.1⟩
  · skip
    refine wp_seq ?_
    have hLo : LOk [(0, 15, .val (.pointer (some ⟨g1_0, 0, none⟩))), (1, 16, .val (.int .i64 ((t).kind))), (2, 17, .val (.bool true)), (3, 18, .val (.bool true)), (4, 19, .val (undef)), (5, 20, .val (undef)), (6, 21, .val (.bool true))] := lok (by rfl) (by rfl)
    refine zK (wE := w) (sz := 29) (n := 7) [0, 1, 3, 7, 15, 31, 63] [(0, .val (.agg (FR () 6 ((t).sc)))), (1, .val (.string (key))), (2, .val (.pointer (some ⟨g1_0, 0, none⟩))), (4, .val (.pointer (some ⟨g1_1, 0, none⟩))), (5, .val (.bool false)), (6, .val (.int .i64 ((lowK t.key key t.ml : Int)))), (7, .val (.bool r1)), (21, .val (.bool true))] [(0, 15, .val (.pointer (some ⟨g1_0, 0, none⟩))), (1, 16, .val (.int .i64 ((t).kind))), (2, 17, .val (.bool true)), (3, 18, .val (.bool true)), (4, 19, .val (undef)), (5, 20, .val (undef)), (6, 21, .val (.bool true))] [⟨g1_0, none, none, (), 6, (t).sc, (t).sc, 25⟩, ⟨g1_1, none, none, (), 6, lsc [.i .i64 (0), .b (false), .i .i64 (0), .s (ByteArray.empty), .sl (none) (0) (0), .sl (none) (0) (0)], lsc [.i .i64 (0), .b (false), .i .i64 (0), .s (ByteArray.empty), .sl (none) (0) (0), .sl (none) (0) (0)], 25⟩] rfl (by rfl) HH2 rfl rfl hLo rfl HS2 (slS 0 rfl rfl (slS 1 rfl rfl (slS 2 rfl rfl (slS 3 rfl rfl (slS 4 rfl rfl (slS 5 rfl rfl (slS 6 rfl rfl (slL 6 (d := 6) rfl (trivial))))))))) ?_ ?_
    · show ∀ i ∈ [0, 1, 2, 3, 4, 5, 6], _
      refine zA (zC 0 _ rfl rfl hLo rfl rfl (fun _ _ _ _ => rfl) (fun b G w hb ho => zH rfl (zG rfl (HS2.get 2 rfl)) (by kernel_rfl))) ?_
      refine zA (zW 1 0 _ _ rfl rfl rfl hLo rfl rfl (fun _ _ _ _ => rfl) (by rfl) (by rfl) (fun b G w hb ho hr => zP hr (Nat.le_of_ble_eq_true rfl) Tryd.underlying3 rfl rfl (zB hLo 0 rfl HS2.1 rfl (hb 0 (by rfl))))) ?_
      refine zA (zC 2 _ rfl rfl hLo rfl rfl (fun _ _ _ _ => rfl) (fun b G w hb ho => zJ rfl (zB hLo 1 rfl HS2.1 rfl (hb 1 (by rfl))) (rfl) (rb_neq hr2 _ _ _))) ?_
      refine zA (zC 3 _ rfl rfl hLo rfl rfl (fun _ _ _ _ => rfl) (fun b G w hb ho => zD (.inl rfl) (zB hLo 2 rfl HS2.1 rfl (hb 2 (by rfl))))) ?_
      refine zA (zL 4 rfl rfl hLo rfl rfl (fun b G hb ho => zE rfl rfl rfl HS2.1 rfl (zB hLo 3 rfl HS2.1 rfl (hb 3 (by rfl))) rfl)) ?_
      refine zA (zL 5 rfl rfl hLo rfl rfl (fun b G hb ho => zE rfl rfl rfl HS2.1 rfl (zB hLo 3 rfl HS2.1 rfl (hb 3 (by rfl))) rfl)) ?_
      refine zA (zC 6 _ rfl rfl hLo rfl rfl (fun _ _ _ _ => rfl) (fun b G w hb ho => zO rfl (zB hLo 3 rfl HS2.1 rfl (hb 3 (by rfl))) (rfl))) ?_
      exact zF
    clear hLo
    intro G a6 w6 hS hH
    have HS6 : Sl a6 29 [(0, .agg (FR () 6 ((t).sc))), (1, .string (key)), (2, .pointer (some ⟨g1_0, 0, none⟩)), (4, .pointer (some ⟨g1_1, 0, none⟩)), (5, .bool false), (6, .int .i64 ((lowK t.key key t.ml : Int))), (7, .bool r1), (21, .bool true)] := hS
    have HH6 : Held w w6 [⟨g1_0, (), 6, (t).sc, 25⟩, ⟨g1_1, (), 6, lsc [.i .i64 (0), .b (false), .i .i64 (0), .s (ByteArray.empty), .sl (none) (0) (0), .sl (none) (0) (0)], 25⟩] := hH
    clear hS hH HS2 HH2
    refine then_ ?_
    refine wp_cond_true (HS6.get 7 rfl) ?_
    refine wp_seq ?_
    have hLo : LOk [(0, 22, .val (.agg (FR () 6 ((T.zero).sc)))), (2, 5, .val (.bool false))] := lok (by rfl) (by rfl)
    refine zK (wE := w) (sz := 29) (n := 3) [0, 1, 3] [(0, .val (.agg (FR () 6 ((t).sc)))), (1, .val (.string (key))), (2, .val (.pointer (some ⟨g1_0, 0, none⟩))), (4, .val (.pointer (some ⟨g1_1, 0, none⟩))), (6, .val (.int .i64 ((lowK t.key key t.ml : Int)))), (7, .val (.bool r1)), (21, .val (.bool true)), (5, .val (.bool false))] [(0, 22, .val (.agg (FR () 6 ((T.zero).sc)))), (2, 5, .val (.bool false))] [⟨g1_0, none, none, (), 6, (t).sc, (t).sc, 25⟩, ⟨g1_1, none, some 1, (), 6, lsc [.i .i64 (0), .b (false), .i .i64 (0), .s (ByteArray.empty), .sl (none) (0) (0), .sl (none) (0) (0)], (T.zero).sc, 25⟩] rfl (by rfl) HH6 rfl rfl hLo rfl HS6 (slS 0 rfl rfl (slS 1 rfl rfl (slS 2 rfl rfl (slS 3 rfl rfl (slS 5 rfl rfl (slS 6 rfl rfl (slS 7 rfl rfl (slL 1 (d := 2) rfl (trivial))))))))) ?_ ?_
    · show ∀ i ∈ [0, 1, 2], _
      refine zA (zC 0 _ rfl rfl hLo rfl rfl (fun _ _ _ _ => rfl) (fun b G w hb ho => exec_build rfl (parts0 ) (by kernel_rfl))) ?_
      refine zA (st_store 1 _ rfl rfl rfl rfl rfl (fun _ _ _ _ => rfl) rfl rfl rfl (by rfl) (by kernel_rfl) (fun b G hb ho => zG rfl (HS6.get 3 rfl)) (fun b G hb ho => zB hLo 0 rfl HS6.1 rfl (hb 0 (by rfl)))) ?_
      refine zA (zC 1 _ rfl rfl hLo rfl rfl (fun _ _ _ _ => rfl) (fun b G w hb ho => zD (.inr rfl) (rfl))) ?_
      exact zF
    clear hLo
    intro G a7 w7 hS hH
    have HS7 : Sl a7 29 [(0, .agg (FR () 6 ((t).sc))), (1, .string (key)), (2, .pointer (some ⟨g1_0, 0, none⟩)), (4, .pointer (some ⟨g1_1, 0, none⟩)), (6, .int .i64 ((lowK t.key key t.ml : Int))), (7, .bool r1), (21, .bool true), (5, .bool false)] := hS
    have HH7 : Held w w7 [⟨g1_0, (), 6, (t).sc, 25⟩, ⟨g1_1, (), 6, (T.zero).sc, 25⟩] := hH
    clear hS hH HS6 HH6
    refine then_ ?_
    refine wp_ret ?_
    repeat (first | refine zS ?_ | refine zM ?_)
    exact b_row2 rfl HS7.2.1 (HS7.get 3 rfl) (HS7.get 7 rfl) (HH7.row 1 rfl) Tryd.underlying25 rfl (by kernel_rfl) ⟨get_ret_none (get_no1 hr2), HH7.1⟩
def k_ban : ByteArray := ⟨#[98, 97, 110]⟩
def k_events_default : ByteArray := ⟨#[101, 118, 101, 110, 116, 115, 95, 100, 101, 102, 97, 117, 108, 116]⟩
def k_invite : ByteArray := ⟨#[105, 110, 118, 105, 116, 101]⟩
def k_kick : ByteArray := ⟨#[107, 105, 99, 107]⟩
def k_redact : ByteArray := ⟨#[114, 101, 100, 97, 99, 116]⟩
def k_state_default : ByteArray := ⟨#[115, 116, 97, 116, 101, 95, 100, 101, 102, 97, 117, 108, 116]⟩
def k_users_default : ByteArray := ⟨#[117, 115, 101, 114, 115, 95, 100, 101, 102, 97, 117, 108, 116]⟩
def k_users : ByteArray := ⟨#[117, 115, 101, 114, 115]⟩
def k_events : ByteArray := ⟨#[101, 118, 101, 110, 116, 115]⟩
def k_notifications : ByteArray := ⟨#[110, 111, 116, 105, 102, 105, 99, 97, 116, 105, 111, 110, 115]⟩
end Go.Proofs.YtlfplmlehbomlaaDoor.P
end
