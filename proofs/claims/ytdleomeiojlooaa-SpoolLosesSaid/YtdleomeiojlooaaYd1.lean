/- Merged of the texts: WWords, WLast, WQPut, WApart, WArr, WZeros, WFoot, WKept, WShare, WN, WNEv, WMore, WTab, WRepsOne, Vb, WInv, Wi, Wx, Wr, Wc, Wm, Wn, Wl, Wt, Wu, Ww, Wd, WFour, WFootNe, WAt, WEqStruct, WInvWords, WGuard, G0 (trim.py). -/
import Derived.Below
import Derived.Deep.Draws
import Derived.Deep.AppendLies
import Derived.Maps.AppendAt
import Derived.OwnWalk
import Derived.Laws.BytesArg
import Derived.Laws.MakeOwn
import Derived.Laws.OwnMore
import Derived.Deep.OwnRows
import Derived.Tactics
import Derived.Lib.ConvBytes
import Derived.Laws.Slices
import Derived.WalkKit
import Derived.KernelRfl
import Derived.RowKit3
import Derived.Deep.LoopGhost
import Derived.Deep.QuietTactic
import Derived.BigQuiet
import Derived.WideLaws
import Derived.Deep.DeepCutAuto
import Derived.Deep.CutBlock
import Derived.Deep.RegionHeld3
import Derived.Laws.Rows
import Derived.Lib.AppendStr
import Derived.ArgAppend
import Derived.Laws.IdiomCopy
import Derived.RowKit
import Derived.OrdersHeld
import Derived.Laws.BitsLemmas
import Derived.Laws.BitsAllLaws
import Derived.Laws.NewBlocks
import Derived.ChangeKeysEq
import Derived.Laws.StructEq
import Derived.Deep.RegionWith
import Derived.WideKeyArr2
import Derived.Lib.Mul64
import Derived.Laws.Externs
import Derived.ChangeSlices
import Derived.Test.YtdleomeiojlooaaProg
import Derived.Laws.Cover1
import Derived.Lib.Strings
import Derived.Deep.AppendSrc
import Derived.RangeFuncNested
import Derived.RangeFuncBound
import Derived.RangeFuncCalls
import Derived.RangeFuncLeaves
import Derived.Lib.Bytealg
namespace Foot
end Foot
namespace Go.Proofs.Ytdleomeiojlooaa.L
end Go.Proofs.Ytdleomeiojlooaa.L
namespace Go.Proofs.Ytdleomeiojlooaa.P
end Go.Proofs.Ytdleomeiojlooaa.P
namespace Go.Proofs.YtdleomeiojlooaaW.PrintLast
end Go.Proofs.YtdleomeiojlooaaW.PrintLast
namespace Go.Proofs.YtdleomeiojlooaaW.PrintMore
end Go.Proofs.YtdleomeiojlooaaW.PrintMore
namespace Go.Proofs.YtdleomeiojlooaaW.PrintWords
end Go.Proofs.YtdleomeiojlooaaW.PrintWords
namespace Kd
end Kd
section
set_option linter.unusedVariables false
set_option linter.unusedSimpArgs false
namespace Go.Proofs.YtdleomeiojlooaaW.PrintWords
open Go.RowKit
structure Aside0 (p : Prop) : Prop where mk :: (out : p)
structure Drawn0 (w w' : World) : Prop where mk :: (out : ∃ n, w' = w.drewN n)
theorem Drawn0.refl (w : World) : Drawn0 w w := ⟨⟨0, rfl⟩⟩
theorem Drawn0.step {w w' : World} (h : Drawn0 w w') (n : Nat) : Drawn0 w (w'.drewN n) := by
  obtain ⟨m, rfl⟩ := h
  exact ⟨⟨m + n, World.drewN_drewN ..⟩⟩
theorem Drawn0.grown {w w' : World} (h : Drawn0 w w') : Grown w w' := by
  obtain ⟨n, rfl⟩ := h
  induction n with
  | zero => exact Grown.refl _
  | succ n ih => rw [← World.drew_drewN]; exact Grown.drew ih
theorem Drawn0.below {w w' : World} (h : Drawn0 w w') : Below w.heap.size w w' := by
  obtain ⟨n, rfl⟩ := h
  induction n with
  | zero => exact Below.refl _ _
  | succ n ih => rw [← World.drew_drewN]; exact ih.drew
def rd (xs : List Int) (i : Int) : Int := xs.getD i.toNat 0
def bt (s : ByteArray) (i : Int) : Int := if h : i.toNat < s.size then ((s[i.toNat]'h).toNat : Int) else 0
theorem bt_at (s : ByteArray) (i : Int) : ∀ h : i.toNat < s.size, ((s[i.toNat]'h).toNat : Int) = bt s i := fun h => by simp [bt, h]
def nums (k : IntKind) (xs : List Int) : List Value := xs.map fun x => .int k x
theorem below_alloc {w W : World} (h : Below w.heap.size w W) (o : Obj) : Below w.heap.size w (W.alloc o) := h.alloc h.size o
theorem below_drew {B : Nat} {w W : World} (h : Below B w W) : Below B w W.drew := ⟨h.os, h.tape, h.output, h.size, h.block⟩
theorem pw_below_drewN {B : Nat} {w W : World} (h : Below B w W) (n : Nat) : Below B w (W.drewN n) := ⟨h.os, h.tape, h.output, h.size, h.block⟩
theorem below_then {B : Nat} {w w1 w2 : World} (h : Below B w w1) (hB : B ≤ w1.heap.size) (k : Below w1.heap.size w1 w2) : Below B w w2 :=
  h.trans ⟨k.os, k.tape, k.output, k.size, fun i hi => k.block i (Nat.lt_of_lt_of_le hi hB)⟩
theorem grown_of_below {w w1 : World} (h : Below w.heap.size w w1) (row : Option Nat) : w.grownBy w1 row := ⟨h.os, h.tape, h.output, h.size, fun i hi _ => h.block i hi⟩
theorem pw_cell_below {w w1 : World} (h : Below w.heap.size w w1) {a : Addr} {v : Value} (hc : w.cell? a = some v) : w1.cell? a = some v := (h.cell (World.block_lt_of_cell? w a hc)).trans hc
theorem add_plain (g j : Nat) : (⟨g, 0, none⟩ : Addr).add j = ⟨g, j, none⟩ := by unfold Addr.add; split <;> simp_all
def ReadsInt (w : World) (k : IntKind) (A : Option Addr) (n : Nat) (xs : List Int) : Prop :=
  xs.length = n ∧ n ≤ 9223372036854775807 ∧ (0 < n → ∃ ad, A = some ad ∧ ∀ j, j < n → w.cell? (ad.add j) = some (.int k (xs.getD j 0)))
theorem ReadsInt.at_ {w : World} {k : IntKind} {A : Option Addr} {n : Nat} {xs : List Int} (h : ReadsInt w k A n xs) (i : Int) (h0 : 0 ≤ i) (h1 : i < n) : ∃ ad, A = some ad ∧ w.cell? (ad.add i.toNat) = some (.int k (rd xs i)) := by
  obtain ⟨ad, e, hc⟩ := h.2.2 (by omega)
  exact ⟨ad, e, hc _ (by omega)⟩
theorem ReadsInt.below {w w1 : World} {k : IntKind} {A : Option Addr} {n : Nat} {xs : List Int} (h : ReadsInt w k A n xs) (hb : Below w.heap.size w w1) : ReadsInt w1 k A n xs :=
  ⟨h.1, h.2.1, fun hn => by
    obtain ⟨ad, e, hc⟩ := h.2.2 hn
    exact ⟨ad, e, fun j hj => pw_cell_below hb (hc j hj)⟩⟩
theorem own_nil (W : World) (base : Nat) (e : TypeId) (size : Nat) : W.ownsRow base e size (.slice none 0 0) 0 [] := ⟨by simp, .inl ⟨rfl, rfl⟩⟩
theorem own_base {w : World} {base : Nat} {e : TypeId} {size n : Nat} {v : Value} {xs : List Value} (h : w.ownsRow base e size v n xs) (k : Nat) (hk : v.ownBlock = some k) : base ≤ k := by
  rcases h.2 with ⟨rfl, _⟩ | ⟨g, cap, cur, rfl, hb, _⟩
  · simp [Value.ownBlock] at hk
  · have : g = k := by simpa [Value.ownBlock] using hk
    omega
theorem own_lt {w : World} {base : Nat} {e : TypeId} {size n : Nat} {v : Value} {xs : List Value} (h : w.ownsRow base e size v n xs) (k : Nat) (hk : v.ownBlock = some k) : k < w.heap.size := by
  rcases h.2 with ⟨rfl, _⟩ | ⟨g, cap, cur, rfl, hb, hh, _⟩
  · simp [Value.ownBlock] at hk
  · have : g = k := by simpa [Value.ownBlock] using hk
    subst this
    exact (Array.getElem?_eq_some_iff.1 hh).1
theorem pw_own_below {w w1 : World} {base : Nat} {e : TypeId} {size n : Nat} {v : Value} {xs : List Value} (h : w.ownsRow base e size v n xs) (hb : Below w.heap.size w w1) : w1.ownsRow base e size v n xs :=
  h.kept (grown_of_below hb none) (by cases v.ownBlock <;> simp)
theorem own_other {w w1 : World} {base : Nat} {e : TypeId} {size n : Nat} {v : Value} {xs : List Value} (h : w.ownsRow base e size v n xs) {row : Option Nat} (hg : w.grownBy w1 row) (hne : v.ownBlock = none ∨ v.ownBlock ≠ row) : w1.ownsRow base e size v n xs := h.kept hg hne
theorem own_string {P : Program} {w : World} {base n : Nat} {e' src dst e : TypeId} {v : Value} {xs : List Int} (hs : P.underlying src = some (.slice e)) (he : P.underlying e = some (.int .u8)) (hd : P.underlying dst = some .string)
    (h : w.ownsRow base e' 1 v n (nums .u8 xs)) : (convert src dst v).run P w = .ok (.string (strOfNums xs)) w := by
  have hl : xs.length = n := by have := h.1; simp [nums] at this; exact this
  rcases h.2 with ⟨rfl, rfl⟩ | ⟨g, cap, cur, rfl, _⟩
  · obtain rfl : xs = [] := List.eq_nil_of_length_eq_zero hl
    exact run_convert_bytes_nil w src e hs he 0 0 dst hd
  · refine run_convert_bytes_arg w src e hs he g 0 n cap xs hl (fun i hi => ?_) dst hd
    have hc := h.cells (g := g) rfl i (.int .u8 (xs.getD i 0)) (by simp [nums, List.getElem?_eq_getElem (show i < xs.length by omega), List.getD_eq_getElem?_getD])
    have ha : (⟨g, 0, none⟩ : Addr).add i = ⟨g, 0 + i, none⟩ := by unfold Addr.add; split <;> simp_all
    rwa [ha] at hc
def bytesOf (s : ByteArray) : List Int := s.data.toList.map fun b => (b.toNat : Int)
theorem data_length (s : ByteArray) : s.data.toList.length = s.size := by rw [Array.length_toList]; rfl
theorem bytesOf_length (s : ByteArray) : (bytesOf s).length = s.size := by rw [bytesOf, List.length_map, data_length]
theorem rd_bytesOf (s : ByteArray) (i : Int) : rd (bytesOf s) i = bt s i := by
  unfold rd bt bytesOf
  split
  · rename_i h
    have h' : i.toNat < s.data.toList.length := by rw [data_length]; exact h
    simp [List.getD_eq_getElem?_getD, List.getElem?_eq_getElem h']
    rfl
  · rename_i h
    have h' : s.data.toList.length ≤ i.toNat := by rw [data_length]; omega
    simp [List.getD_eq_getElem?_getD, List.getElem?_eq_none h']
theorem print_bytes {P : Program} (src dst e : TypeId) {u : TypeDesc} (hs : P.underlying src = some u) (hd : P.underlying dst = some (.slice e)) (he : P.underlying e = some (.int .u8)) (s : ByteArray) (W : World) :
    (convert src dst (.string s)).run P W = .ok (.slice (some ⟨W.heap.size, 0, none⟩) s.size (grownCap W s.size 0 e)) (Lib.bytesWorld W e s) := Lib.run_convert_string_bytes W src dst e s hs hd he
theorem bytes_reads (W : World) (e : TypeId) (s : ByteArray) (hs : s.size ≤ 9223372036854775807) : ReadsInt (Lib.bytesWorld W e s) .u8 (some ⟨W.heap.size, 0, none⟩) s.size (bytesOf s) := by
  refine ⟨bytesOf_length s, hs, fun _ => ⟨_, rfl, fun j hj => ?_⟩⟩
  rw [add_plain, Lib.bytesWorld_cell W e s j hj]
  have h' : j < s.data.toList.length := by rw [data_length]; exact hj
  simp [bytesOf, List.getD_eq_getElem?_getD, List.getElem?_eq_getElem h']
theorem bytes_below {B : Nat} {w W : World} (h : Below B w W) (hB : B ≤ W.heap.size) (e : TypeId) (s : ByteArray) : Below B w (Lib.bytesWorld W e s) :=
  h.trans ⟨rfl, rfl, rfl, by rw [Lib.bytesWorld_size]; omega, fun i hi => Lib.bytesWorld_at_old W e s i (by omega)⟩
def LeO {α : Type} (a b : Option α) : Prop := ∀ r, a = some r → b = some r
theorem LeO.refl {α : Type} (a : Option α) : LeO a a := fun _ h => h
theorem LeO.none {α : Type} (b : Option α) : LeO Option.none b := fun _ h => by cases h
theorem LeO.trans {α : Type} {a b c : Option α} (h : LeO a b) (k : LeO b c) : LeO a c := fun r hr => k r (h r hr)
theorem LeO.ite {α : Type} {c : Prop} [Decidable c] {a a' b b' : Option α} (h : LeO a a') (k : LeO b b') : LeO (if c then a else b) (if c then a' else b') := by
  split
  · exact h
  · exact k
theorem LeO.bind {α β : Type} {a a' : Option α} {f f' : α → Option β} (h : LeO a a') (k : ∀ x, LeO (f x) (f' x)) : LeO (a.bind f) (a'.bind f') := by
  intro r hr
  obtain ⟨x, hx, hf⟩ := Option.bind_eq_some_iff.1 hr
  exact Option.bind_eq_some_iff.2 ⟨x, h x hx, k x r hf⟩
theorem LeO.map {α β : Type} {a a' : Option α} (f : α → β) (h : LeO a a') : LeO (a.map f) (a'.map f) := by
  intro r hr
  obtain ⟨x, hx, hf⟩ := Option.map_eq_some_iff.1 hr
  exact Option.map_eq_some_iff.2 ⟨x, h x hx, hf⟩
theorem more_rounds {α : Type} {g : Nat → Option α} (h : ∀ k, LeO (g k) (g (k + 1))) (k : Nat) : ∀ j, LeO (g k) (g (k + j))
  | 0 => LeO.refl _
  | j + 1 => (more_rounds h k j).trans (h (k + j))
theorem at_rounds {α : Type} {g : Nat → Option α} (h : ∀ k, LeO (g k) (g (k + 1))) {k k' : Nat} (hk : k ≤ k') {r : α} (hr : g k = some r) : g k' = some r := by
  have := more_rounds h k (k' - k) r hr
  rwa [Nat.add_sub_cancel' hk] at this
def Reps {α : Type} (R : α → List Value → Prop) (size : Nat) (ps : List α) (cs : List Value) : Prop :=
  cs.length = ps.length * size ∧ ∀ j p, ps[j]? = some p → R p ((cs.drop (j * size)).take size)
theorem Reps.none {α : Type} (R : α → List Value → Prop) (size : Nat) : Reps R size [] [] := ⟨by simp, fun j p h => by simp at h⟩
theorem Reps.snoc {α : Type} {R : α → List Value → Prop} {size : Nat} {ps : List α} {cs c : List Value} {p : α} (h : Reps R size ps cs) (hp : R p c) (hc : c.length = size) : Reps R size (ps ++ [p]) (cs ++ c) := by
  refine ⟨by rw [List.length_append, h.1, hc, List.length_append, List.length_singleton, Nat.add_mul, Nat.one_mul], fun j q hq => ?_⟩
  rcases Nat.lt_or_ge j ps.length with hj | hj
  · rw [List.getElem?_append_left hj] at hq
    have h1 : j * size + size ≤ cs.length := by rw [h.1, ← Nat.succ_mul]; exact Nat.mul_le_mul_right _ hj
    have h2 := h.2 j q hq
    rw [List.drop_append_of_le_length (by omega), List.take_append_of_le_length (by rw [List.length_drop]; omega)]
    exact h2
  · have hj' : j = ps.length := by
      have := (List.getElem?_eq_some_iff.1 hq).1
      rw [List.length_append, List.length_singleton] at this
      omega
    subst hj'
    have hq' : p = q := by simpa using hq
    subst hq'
    rw [← h.1, List.drop_left, ← hc, List.take_length]
    exact hp
theorem Reps.imp_ {α : Type} {R R' : α → List Value → Prop} {size : Nat} {ps : List α} {cs : List Value} (h : Reps R size ps cs) (hR : ∀ p c, R p c → R' p c) : Reps R' size ps cs := ⟨h.1, fun j p hj => hR _ _ (h.2 j p hj)⟩
def ReadsRow {α : Type} (R : α → List Value → Prop) (size : Nat) (w : World) (A : Option Addr) (n : Nat) (ps : List α) : Prop :=
  ps.length = n ∧ n ≤ 9223372036854775807 ∧ (0 < n → ∃ ad, A = some ad ∧ ∀ j p, ps[j]? = some p → ∃ c, c.length = size ∧ R p c ∧ ∀ i u, c[i]? = some u → w.cell? (ad.add (j * size + i)) = some u)
theorem ReadsRow.get_ {α : Type} {R : α → List Value → Prop} {size : Nat} {w : World} {A : Option Addr} {n : Nat} {ps : List α} (h : ReadsRow R size w A n ps) (d : α) (i : Int) (h0 : 0 ≤ i) (h1 : i < n) :
    ∃ ad c, A = some ad ∧ c.length = size ∧ R (ps.getD i.toNat d) c ∧ ∀ j u, c[j]? = some u → w.cell? (ad.add (i.toNat * size + j)) = some u := by
  obtain ⟨ad, e, hc⟩ := h.2.2 (by omega)
  have hl : i.toNat < ps.length := by have := h.1; omega
  obtain ⟨c, hs, hr, hcell⟩ := hc i.toNat _ (List.getElem?_eq_getElem hl)
  refine ⟨ad, c, e, hs, ?_, hcell⟩
  rw [List.getD_eq_getElem?_getD, List.getElem?_eq_getElem hl]
  exact hr
theorem ReadsRow.imp_ {α : Type} {R R' : α → List Value → Prop} {size : Nat} {w w1 : World} {A : Option Addr} {n : Nat} {ps : List α} (h : ReadsRow R size w A n ps) (hb : Below w.heap.size w w1) (hR : ∀ p c, R p c → R' p c) : ReadsRow R' size w1 A n ps :=
  ⟨h.1, h.2.1, fun hn => by
    obtain ⟨ad, e, hc⟩ := h.2.2 hn
    refine ⟨ad, e, fun j p hj => ?_⟩
    obtain ⟨c, hs, hr, hcell⟩ := hc j p hj
    exact ⟨c, hs, hR _ _ hr, fun i u hu => pw_cell_below hb (hcell i u hu)⟩⟩
theorem own_reads_row {α : Type} {R : α → List Value → Prop} {w : World} {base n size : Nat} {e : TypeId} {v : Value} {ps : List α} {cs : List Value} (h : w.ownsRow base e size v n cs) (hR : Reps R size ps cs) (hn : ps.length = n) :
    ∃ A c, v = .slice A n c ∧ ReadsRow R size w A n ps := by
  rcases Nat.eq_zero_or_pos n with h0 | h0
  · rcases h.2 with ⟨rfl, rfl⟩ | ⟨g, cap, cur, rfl, _⟩
    · exact ⟨none, 0, rfl, hn, by omega, fun hp => absurd hp (by omega)⟩
    · exact ⟨_, cap, rfl, hn, by omega, fun hp => absurd hp (by omega)⟩
  · obtain ⟨g, cap, rfl, _, _⟩ := h.form h0
    have hm : n ≤ 9223372036854775807 := by
      rcases h.2 with ⟨_, h1⟩ | ⟨g', cap', cur, he, _, _, h1, h2, _⟩
      · omega
      · simp only [maxLen] at h2
        omega
    refine ⟨_, cap, rfl, hn, hm, fun _ => ⟨_, rfl, fun j p hj => ⟨(cs.drop (j * size)).take size, ?_, hR.2 j p hj, fun i u hu => ?_⟩⟩⟩
    · have hjl := (List.getElem?_eq_some_iff.1 hj).1
      have h1 : j * size + size ≤ cs.length := by rw [hR.1, ← Nat.succ_mul]; exact Nat.mul_le_mul_right _ hjl
      rw [List.length_take, List.length_drop]
      omega
    · refine h.cells (g := g) rfl _ u ?_
      rw [List.getElem?_take] at hu
      split at hu
      · rw [List.getElem?_drop] at hu
        exact hu
      · cases hu
theorem add_field (ad : Addr) (m j : Nat) (hj : 0 < j) : ad.add (m + j) = ⟨(ad.add m).block, (ad.add m).off + j, none⟩ := by
  unfold Addr.add
  by_cases hm : m = 0
  · subst hm
    simp [Nat.ne_of_gt hj]
  · simp [hm, Nat.add_assoc]
section
variable {P : Program} {ops : Array Oper} {rest : List Oper} {o : Oper} {a : Act} {Q : Exit → Act → World → Prop}
theorem print_append_cells {w0 W : World} (base : Nat) (hgd : o.guard = none) (s x : Operand) (t e : TypeId) (z : Value) (size bytes : Nat)
    (ho : o.op = .call { callee := .builtin .append, args := #[s, x], argTypes := #[t, t] })
    (ht : P.underlying t = some (.slice e)) (hinfo : (P.info? e).map (fun i => (i.zero, i.size, i.bytes)) = some (some z, size, bytes)) (hz : z.cells.size = size) (hs0 : 0 < size) (hb0 : 0 < bytes)
    (v : Value) (n : Nat) (xs ys : List Value) (hs : a.eval s = v) (hx : a.eval x = .slice (some ⟨W.heap.size, 0, none⟩) 1 1) (hys : ys.length = size) (h1 : ∀ u ∈ ys, u.oneCell' = true)
    (HO : W.ownsRow base e size v n xs) (HB : Below base w0 W) (hbase : base ≤ W.heap.size) (hl : (n + 1) * bytes ≤ 140737488355328)
    (h : ∀ v1 w1, w1.ownsRow base e size v1 (n + 1) (xs ++ ys) → Below base w0 w1 → W.grownBy w1 v.ownBlock → (v1.ownBlock = v.ownBlock ∨ ∃ b, v1.ownBlock = some b ∧ W.heap.size ≤ b) → wpList P ops Q rest (a.put o.dst v1) w1) :
    wpList P ops Q (o :: rest) a (W.alloc (.cells ys.toArray e)) := by
  obtain ⟨i0, hi, hzz⟩ := Option.map_eq_some_iff.1 hinfo
  simp only [Prod.mk.injEq] at hzz
  obtain ⟨hz0, hz1, hz2⟩ := hzz
  have hlen : n + 1 ≤ 140737488355328 := Nat.le_trans (Nat.le_mul_of_pos_right _ hb0) hl
  refine wpList_append_own_at (W.alloc (.cells ys.toArray e)) hgd s x t ho base e i0 z size bytes ht hi hz0 hz1 hz2 hz hs0 v n xs hs (HO.alloc _) ⟨W.heap.size, 0, none⟩ 1 1 ys hx (by rw [hys]; simp)
    (by simpa using World.news_of_block (cs := ys.toArray) (t := e) (fr := (0, 0)) (heap_alloc_new W (.cells ys.toArray e))) h1 (by simp only [maxLen]; omega) hl (by simp; omega) ?_
  intro v1 w1 hown hg _ hat
  refine h v1 w1 hown ((HB.alloc hbase _).grown hg (by simp; omega) (own_base HO)) (World.grownBy.trans (World.grownBy_alloc W _ _) hg) ?_
  rcases hat with hat | hat
  · exact .inl hat
  · exact .inr ⟨_, hat, by simp⟩
end
theorem own_ne {w : World} {base : Nat} {e t : TypeId} {size n g : Nat} {v : Value} {xs : List Value} {cs : Array Value} (h : w.ownsRow base e size v n xs) (hg : w.heap[g]? = some (.cells cs t (0, 0))) (hne : e ≠ t) : some g ≠ v.ownBlock := by
  rcases h.2 with ⟨rfl, _⟩ | ⟨g', cap, cur, rfl, _, hh, _⟩
  · simp [Value.ownBlock]
  · intro he
    have : g = g' := by simpa [Value.ownBlock] using he
    subst this
    rw [hg] at hh
    injection hh with hh
    injection hh with _ ht
    exact hne ht.symm
theorem blk_set {w : World} {g : Nat} {t : TypeId} {cs : Array Value} (h : w.heap[g]? = some (.cells cs t (0, 0))) (i : Nat) (u : Value) : (w.setCell ⟨g, i, none⟩ u).heap[g]? = some (.cells (cs.setIfInBounds i u) t (0, 0)) := by
  simp [World.setCell, Array.getElem?_modify, h]
theorem blk_lt {w : World} {g : Nat} {o : Obj} (h : w.heap[g]? = some o) : g < w.heap.size := (Array.getElem?_eq_some_iff.1 h).1
theorem blk_cell {w : World} {g : Nat} {t : TypeId} {cs : Array Value} (h : w.heap[g]? = some (.cells cs t (0, 0))) (i : Nat) : w.cell? ⟨g, i, none⟩ = cs[i]? := cell_of_row w g i cs t (0, 0) h
theorem blk_frozen {w : World} {g : Nat} {t : TypeId} {cs : Array Value} (h : w.heap[g]? = some (.cells cs t (0, 0))) (i : Nat) : w.frozen? ⟨g, i, none⟩ = false := by simp [World.frozen?, h]
def KeepBut (w w' : World) (g : Nat) (row : Option Nat) : Prop := w.heap.size ≤ w'.heap.size ∧ ∀ i, i < w.heap.size → i ≠ g → some i ≠ row → w'.heap[i]? = w.heap[i]?
theorem KeepBut.refl (w : World) (g : Nat) (row : Option Nat) : KeepBut w w g row := ⟨Nat.le_refl _, fun _ _ _ _ => rfl⟩
theorem KeepBut.of_below {w w1 : World} (h : Below w.heap.size w w1) (g : Nat) (row : Option Nat) : KeepBut w w1 g row := ⟨h.size, fun i hi _ _ => h.block i hi⟩
theorem KeepBut.trans {w w1 w2 : World} {g : Nat} {row row1 : Option Nat} (h : KeepBut w w1 g row) (k : KeepBut w1 w2 g row1) (hr : row1 = row ∨ ∃ b, row1 = some b ∧ w.heap.size ≤ b) : KeepBut w w2 g row :=
  ⟨Nat.le_trans h.1 k.1, fun i hi hg hn => by
    refine (k.2 i (Nat.lt_of_lt_of_le hi h.1) hg ?_).trans (h.2 i hi hg hn)
    rcases hr with rfl | ⟨b, rfl, hb⟩
    · exact hn
    · intro e
      injection e with e
      omega⟩
theorem KeepBut.blk {w w1 : World} {g g' : Nat} {row : Option Nat} {o : Obj} (h : KeepBut w w1 g row) (hb : w.heap[g']? = some o) (hg : g' ≠ g) (hr : some g' ≠ row) : w1.heap[g']? = some o := (h.2 g' (blk_lt hb) hg hr).trans hb
theorem KeepBut.own {w w1 : World} {g : Nat} {row : Option Nat} {base : Nat} {e : TypeId} {size n : Nat} {v : Value} {xs : List Value} (h : KeepBut w w1 g row) (ho : w.ownsRow base e size v n xs) (hg : v.ownBlock ≠ some g) (hr : v.ownBlock = none ∨ v.ownBlock ≠ row) : w1.ownsRow base e size v n xs := by
  obtain ⟨h1, h2⟩ := ho
  refine ⟨h1, ?_⟩
  rcases h2 with h2 | ⟨b, cap, cur, rfl, hb, hh, r⟩
  · exact .inl h2
  · refine .inr ⟨b, cap, cur, rfl, hb, h.blk hh ?_ ?_, r⟩
    · intro e
      exact hg (by rw [← e]; rfl)
    · rcases hr with hr | hr
      · simp [Value.ownBlock] at hr
      · exact hr
def Ev {α : Type} (g : Nat → Option α) (r : α) : Prop := ∃ K, ∀ k, K ≤ k → g k = some r
theorem Ev.of {α : Type} {g : Nat → Option α} {r : α} (hg : ∀ k, LeO (g k) (g (k + 1))) {k : Nat} (h : g k = some r) : Ev g r := ⟨k, fun _ hk => at_rounds hg hk h⟩
theorem Ev.bind {α β : Type} {g : Nat → Option α} {f : Nat → α → Option β} {a : α} {r : β} (h : Ev g a) (k : Ev (fun n => f n a) r) : Ev (fun n => (g n).bind (f n)) r := by
  obtain ⟨K, h⟩ := h
  obtain ⟨K', k⟩ := k
  refine ⟨max K K', fun n hn => ?_⟩
  have h1 := h n (by omega)
  have h2 := k n (by omega)
  simp only [h1, Option.bind_some]
  exact h2
theorem Ev.step {α : Type} {g f : Nat → Option α} {r : α} (h : ∀ k, g (k + 1) = f k) (k : Ev f r) : Ev g r := by
  obtain ⟨K, k⟩ := k
  refine ⟨K + 1, fun n hn => ?_⟩
  obtain ⟨m, rfl⟩ : ∃ m, n = m + 1 := ⟨n - 1, by omega⟩
  rw [h]
  exact k m (by omega)
theorem Ev.congr {α : Type} {g f : Nat → Option α} {r : α} (h : ∀ k, g k = f k) (k : Ev f r) : Ev g r := by
  obtain ⟨K, k⟩ := k
  exact ⟨K, fun n hn => (h n).trans (k n hn)⟩
theorem own_weaken {w : World} {base base' : Nat} {e : TypeId} {size n : Nat} {v : Value} {xs : List Value} (h : w.ownsRow base e size v n xs) (hb : base' ≤ base) : w.ownsRow base' e size v n xs := by
  obtain ⟨h1, h2⟩ := h
  refine ⟨h1, ?_⟩
  rcases h2 with h2 | ⟨g, cap, cur, rfl, hg, r⟩
  · exact .inl h2
  · exact .inr ⟨g, cap, cur, rfl, Nat.le_trans hb hg, r⟩
section
variable {α : Type} {enc : α → Value} {d : α}
def encs (enc : α → Value) (xs : List α) : List Value := xs.map enc
def rdOf (d : α) (xs : List α) (i : Int) : α := xs.getD i.toNat d
theorem encs_length (xs : List α) : (encs enc xs).length = xs.length := by simp [encs]
theorem encs_get (xs : List α) (j : Nat) (h : j < xs.length) : (encs enc xs)[j]? = some (enc (xs.getD j d)) := by
  simp [encs, List.getElem?_eq_getElem h, List.getD_eq_getElem?_getD]
def ReadsOf (enc : α → Value) (d : α) (w : World) (A : Option Addr) (n : Nat) (xs : List α) : Prop :=
  xs.length = n ∧ n ≤ 9223372036854775807 ∧ (0 < n → ∃ ad, A = some ad ∧ ∀ j, j < n → w.cell? (ad.add j) = some (enc (xs.getD j d)))
theorem ReadsOf.at_ {w : World} {A : Option Addr} {n : Nat} {xs : List α} (h : ReadsOf enc d w A n xs) (i : Int) (h0 : 0 ≤ i) (h1 : i < n) : ∃ ad, A = some ad ∧ w.cell? (ad.add i.toNat) = some (enc (rdOf d xs i)) := by
  obtain ⟨ad, e, hc⟩ := h.2.2 (by omega)
  exact ⟨ad, e, hc _ (by omega)⟩
theorem ReadsOf.below {w w1 : World} {A : Option Addr} {n : Nat} {xs : List α} (h : ReadsOf enc d w A n xs) (hb : Below w.heap.size w w1) : ReadsOf enc d w1 A n xs :=
  ⟨h.1, h.2.1, fun hn => by
    obtain ⟨ad, e, hc⟩ := h.2.2 hn
    exact ⟨ad, e, fun j hj => pw_cell_below hb (hc j hj)⟩⟩
theorem own_at_of {W : World} {base g n cap : Nat} {e : TypeId} {xs : List α} (h : W.ownsRow base e 1 (.slice (some ⟨g, 0, none⟩) n cap) n (encs enc xs)) (i : Int) (h0 : 0 ≤ i) (h1 : i < n) :
    W.cell? ⟨g, i.toNat, none⟩ = some (enc (rdOf d xs i)) ∧ W.frozen? ⟨g, i.toNat, none⟩ = false := by
  have hl : xs.length = n := by have := h.1; simp [encs] at this; exact this
  constructor
  · have hc := h.cells (g := g) rfl i.toNat _ (encs_get (d := d) xs i.toNat (by omega))
    rwa [add_plain] at hc
  · rcases h.2 with ⟨h', _⟩ | ⟨g', cap', cur, h', _, hh, _⟩
    · cases h'
    · have : g = g' := by injection h' with h'; injection h' with h'; injection h' with h'
      subst this
      simp [World.frozen?, hh]
theorem own_store_of {W : World} {base g n cap : Nat} {e : TypeId} {xs : List α} (h : W.ownsRow base e 1 (.slice (some ⟨g, 0, none⟩) n cap) n (encs enc xs)) (i : Int) (x : α) :
    (W.setCell ⟨g, i.toNat, none⟩ (enc x)).ownsRow base e 1 (.slice (some ⟨g, 0, none⟩) n cap) n (encs enc (xs.set i.toNat x)) ∧ W.grownBy (W.setCell ⟨g, i.toNat, none⟩ (enc x)) (some g) := by
  have hs := h.stored i.toNat (enc x)
  have he : (encs enc xs).set i.toNat (enc x) = encs enc (xs.set i.toNat x) := by simp [encs, List.map_set]
  rwa [he] at hs
end
theorem blk_new (w : World) (o : Obj) : (w.alloc o).heap[w.heap.size]? = some o := heap_alloc_new w o
theorem own_le {w : World} {base n m c size : Nat} {e : TypeId} {A : Option Addr} {xs : List Value} (h : w.ownsRow base e size (.slice A m c) n xs) : m ≤ c := by
  rcases h.2 with ⟨he, _⟩ | ⟨g, cap, cur, he, _, _, hnc, _⟩
  · injection he with _ h2 h3
    omega
  · injection he with _ h2 h3
    omega
def OwnRow {α : Type} (R : α → List Value → Prop) (e : TypeId) (size : Nat) (w : World) (base : Nat) (v : Value) (ps : List α) : Prop :=
  ∃ inner, w.ownsRow base e size v ps.length inner ∧ Reps R size ps inner
section
variable {α : Type} {R R' : α → List Value → Prop} {e : TypeId} {size : Nat} {w w1 : World} {base : Nat} {v : Value} {ps : List α}
theorem OwnRow.none_ (R : α → List Value → Prop) (e : TypeId) (size : Nat) (w : World) (base : Nat) : OwnRow R e size w base (.slice none 0 0) [] := ⟨[], own_nil _ _ _ _, Reps.none _ _⟩
theorem OwnRow.imp_ (h : OwnRow R e size w base v ps) (hR : ∀ p c, R p c → R' p c) : OwnRow R' e size w base v ps := by
  obtain ⟨inner, ho, hr⟩ := h
  exact ⟨inner, ho, hr.imp_ hR⟩
theorem OwnRow.below (h : OwnRow R e size w base v ps) (hb : Below w.heap.size w w1) : OwnRow R e size w1 base v ps := by
  obtain ⟨inner, ho, hr⟩ := h
  exact ⟨inner, pw_own_below ho hb, hr⟩
theorem OwnRow.other (h : OwnRow R e size w base v ps) {row : Option Nat} (hg : w.grownBy w1 row) (hne : v.ownBlock = none ∨ v.ownBlock ≠ row) : OwnRow R e size w1 base v ps := by
  obtain ⟨inner, ho, hr⟩ := h
  exact ⟨inner, own_other ho hg hne, hr⟩
theorem OwnRow.keep (h : OwnRow R e size w base v ps) {g : Nat} {t : TypeId} {cells : Array Value} (hb : w.heap[g]? = some (.cells cells t (0, 0))) (ht : e ≠ t) (hk : KeepBut w w1 g none) : OwnRow R e size w1 base v ps := by
  obtain ⟨inner, ho, hr⟩ := h
  exact ⟨inner, hk.own ho (Ne.symm (own_ne ho hb ht)) (by cases v.ownBlock <;> simp), hr⟩
theorem OwnRow.reads (h : OwnRow R e size w base v ps) : ∃ A c, v = .slice A ps.length c ∧ ps.length ≤ c ∧ ReadsRow R size w A ps.length ps := by
  obtain ⟨inner, ho, hr⟩ := h
  obtain ⟨A, c, rfl, hrow⟩ := own_reads_row ho hr rfl
  exact ⟨A, c, rfl, own_le ho, hrow⟩
theorem OwnRow.lit (W : World) (base : Nat) {inner : List Value} (hr : Reps R size ps inner) (hb : base ≤ W.heap.size) (hm : ps.length ≤ 9223372036854775807) :
    OwnRow R e size (W.alloc (.cells inner.toArray e)) base (.slice (some ⟨W.heap.size, 0, none⟩) ps.length ps.length) ps := by
  have h := World.ownsRow_lit (base := base) (e := e) (size := size) W inner.toArray ps.length hb (by simpa [maxLen] using hm) (by simpa using hr.1)
  exact ⟨inner, by simpa using h, hr⟩
end
section
variable {P : Program} {ops : Array Oper} {rest : List Oper} {o : Oper} {a : Act} {Q : Exit → Act → World → Prop} {α : Type} {R : α → List Value → Prop}
theorem OwnRow.append {w0 W : World} (base : Nat) (hgd : o.guard = none) (s x : Operand) (t e : TypeId) (z : Value) (size bytes : Nat)
    (ho : o.op = .call { callee := .builtin .append, args := #[s, x], argTypes := #[t, t] })
    (ht : P.underlying t = some (.slice e)) (hinfo : (P.info? e).map (fun i => (i.zero, i.size, i.bytes)) = some (some z, size, bytes)) (hz : z.cells.size = size) (hs0 : 0 < size) (hb0 : 0 < bytes)
    (v : Value) (ps : List α) (p : α) (cs : List Value) (hs : a.eval s = v) (hx : a.eval x = .slice (some ⟨W.heap.size, 0, none⟩) 1 1) (hp : R p cs) (hcs : cs.length = size) (h1 : ∀ u ∈ cs, u.oneCell' = true)
    (HO : OwnRow R e size W base v ps) (HB : Below base w0 W) (hbase : base ≤ W.heap.size) (hl : (ps.length + 1) * bytes ≤ 140737488355328)
    (h : ∀ v1 w1, OwnRow R e size w1 base v1 (ps ++ [p]) → Below base w0 w1 → W.grownBy w1 v.ownBlock → (v1.ownBlock = v.ownBlock ∨ ∃ b, v1.ownBlock = some b ∧ W.heap.size ≤ b) → wpList P ops Q rest (a.put o.dst v1) w1) :
    wpList P ops Q (o :: rest) a (W.alloc (.cells cs.toArray e)) := by
  obtain ⟨inner, hown, hr⟩ := HO
  refine print_append_cells base hgd s x t e z size bytes ho ht hinfo hz hs0 hb0 v ps.length inner cs hs hx hcs h1 hown HB hbase hl ?_
  intro v1 w1 hown1 hb1 hg1 hat1
  exact h v1 w1 ⟨inner ++ cs, by rw [List.length_append, List.length_singleton]; exact hown1, hr.snoc hp hcs⟩ hb1 hg1 hat1
end
section
variable {α : Type} {P : Program}
theorem ReadsOf.len_ {enc : α → Value} {d : α} {w : World} {A : Option Addr} {n : Nat} {xs : List α} (h : ReadsOf enc d w A n xs) : ReadsOf enc d w A xs.length xs := by rw [h.1]; exact h
end
structure Kd (α : Type) where
  sz : Nat
  E : List Nat
  K : World → α → List Value → Prop
  M : World → Nat → (Nat → Prop) → α → List Value → Prop
  K_len : ∀ {w x cs}, K w x cs → cs.length = sz
  K_one : ∀ {w x cs}, K w x cs → ∀ u ∈ cs, u.oneCell' = true
  K_below : ∀ {w w1 : World} {x cs}, Below w.heap.size w w1 → K w x cs → K w1 x cs
  K_of_M : ∀ {w base ok x cs}, M w base ok x cs → K w x cs
  M_mono : ∀ {w base ok ok' x cs}, (∀ k, ok k → ok' k) → M w base ok x cs → M w base ok' x cs
  M_bound : ∀ {w : World} {base ok x cs}, M w base ok x cs → M w base (fun k => ok k ∧ base ≤ k ∧ k < w.heap.size ∧ ∃ q, q ∈ E ∧ ∃ cells, w.heap[k]? = some (.cells cells q (0, 0))) x cs
  M_move : ∀ {w w1 : World} {base ok x cs}, (∀ k, ok k → w1.heap[k]? = w.heap[k]?) → M w base ok x cs → M w1 base ok x cs
  M_lower : ∀ {w base base' ok x cs}, base' ≤ base → M w base ok x cs → M w base' ok x cs
theorem own_move {w w1 : World} {base : Nat} {e : TypeId} {size n : Nat} {v : Value} {xs : List Value} (h : w.ownsRow base e size v n xs) (hm : ∀ k, v.ownBlock = some k → w1.heap[k]? = w.heap[k]?) : w1.ownsRow base e size v n xs := by
  obtain ⟨h1, h2⟩ := h
  refine ⟨h1, ?_⟩
  rcases h2 with h2 | ⟨g, cap, cur, rfl, hg, hh, r⟩
  · exact .inl h2
  · exact .inr ⟨g, cap, cur, rfl, hg, (hm g (by simp [Value.ownBlock])).trans hh, r⟩
theorem own_typed {w : World} {base : Nat} {e : TypeId} {size n : Nat} {v : Value} {xs : List Value} (h : w.ownsRow base e size v n xs) (k : Nat) (hk : v.ownBlock = some k) : ∃ cells, w.heap[k]? = some (.cells cells e (0, 0)) := by
  rcases h.2 with ⟨rfl, _⟩ | ⟨g, cap, cur, rfl, hg, hh, r⟩
  · simp [Value.ownBlock] at hk
  · have : g = k := by simpa [Value.ownBlock] using hk
    subst this
    exact ⟨cur, hh⟩
namespace Kd
def C {α : Type} (d : Kd α) (w : World) (A : Option Addr) (n : Nat) (xs : List α) : Prop := ReadsRow (d.K w) d.sz w A n xs
def R {α : Type} (d : Kd α) (e : Nat) (w : World) (base : Nat) (ok : Nat → Prop) (v : Value) (xs : List α) : Prop :=
  (∀ k, v.ownBlock = some k → ok k) ∧ OwnRow (d.M w base (fun k => ok k ∧ some k ≠ v.ownBlock)) e d.sz w base v xs
section
variable {α : Type} {d : Kd α} {e : Nat} {w w1 : World} {base : Nat} {ok ok' : Nat → Prop} {v : Value} {xs : List α}
theorem C_below {A : Option Addr} {n : Nat} (h : d.C w A n xs) (hb : Below w.heap.size w w1) : d.C w1 A n xs := ReadsRow.imp_ h hb (fun _ _ hp => d.K_below hb hp)
theorem R_nil (d : Kd α) (e : Nat) (w : World) (base : Nat) (ok : Nat → Prop) : d.R e w base ok (.slice none 0 0) [] := ⟨fun k hk => by simp [Value.ownBlock] at hk, OwnRow.none_ _ _ _ _ _⟩
theorem R_mono (h : d.R e w base ok v xs) (hok : ∀ k, ok k → ok' k) : d.R e w base ok' v xs := ⟨fun k hk => hok k (h.1 k hk), h.2.imp_ (fun _ _ hp => d.M_mono (fun k hk => ⟨hok k hk.1, hk.2⟩) hp)⟩
theorem R_bound (h : d.R e w base ok v xs) : d.R e w base (fun k => ok k ∧ base ≤ k ∧ k < w.heap.size ∧ ∃ q, q ∈ e :: d.E ∧ ∃ cells, w.heap[k]? = some (.cells cells q (0, 0))) v xs := by
  obtain ⟨h0, inner, ho, hr⟩ := h
  refine ⟨fun k hk => ?_, inner, ho, hr.imp_ (fun _ _ hp => d.M_mono (fun k hk => ?_) (d.M_bound hp))⟩
  · obtain ⟨cells, hc⟩ := own_typed ho k hk
    exact ⟨h0 k hk, own_base ho k hk, own_lt ho k hk, e, List.mem_cons_self, cells, hc⟩
  · obtain ⟨⟨h1, h2⟩, h3, h4, q, hq, hc⟩ := hk
    exact ⟨⟨h1, h3, h4, q, List.mem_cons_of_mem _ hq, hc⟩, h2⟩
theorem R_move (h : d.R e w base ok v xs) (hm : ∀ k, ok k → w1.heap[k]? = w.heap[k]?) : d.R e w1 base ok v xs := by
  obtain ⟨h0, inner, ho, hr⟩ := h
  exact ⟨h0, inner, own_move ho (fun k hk => hm k (h0 k hk)), hr.imp_ (fun _ _ hp => d.M_move (fun k hk => hm k hk.1) hp)⟩
theorem R_lower {base' : Nat} (h : d.R e w base ok v xs) (hb : base' ≤ base) : d.R e w base' ok v xs := by
  obtain ⟨h0, inner, ho, hr⟩ := h
  exact ⟨h0, inner, own_weaken ho hb, hr.imp_ (fun _ _ hp => d.M_lower hb hp)⟩
theorem R_step (h : d.R e w base ok v xs) (hm : ∀ k, ok k → k < w.heap.size → w1.heap[k]? = w.heap[k]?) : d.R e w1 base ok v xs :=
  R_mono (R_move (R_bound h) (fun k hk => hm k hk.1 hk.2.2.1)) (fun _ hk => hk.1)
theorem M_step {x : α} {cs : List Value} (h : d.M w base ok x cs) (hm : ∀ k, ok k → k < w.heap.size → w1.heap[k]? = w.heap[k]?) : d.M w1 base ok x cs :=
  d.M_mono (fun _ hk => hk.1) (d.M_move (fun k hk => hm k hk.1 hk.2.2.1) (d.M_bound h))
theorem R_below (h : d.R e w base ok v xs) (hb : Below w.heap.size w w1) : d.R e w1 base ok v xs := R_step h (fun k _ hk => hb.block k hk)
theorem M_below {x : α} {cs : List Value} (h : d.M w base ok x cs) (hb : Below w.heap.size w w1) : d.M w1 base ok x cs := M_step h (fun k _ hk => hb.block k hk)
theorem R_reads (h : d.R e w base ok v xs) : ∃ A c, v = .slice A xs.length c ∧ xs.length ≤ c ∧ d.C w A xs.length xs := by
  obtain ⟨A, c, he, hl, hr⟩ := OwnRow.reads h.2
  exact ⟨A, c, he, hl, hr.imp_ (Below.refl _ _) (fun _ _ hp => d.K_of_M hp)⟩
theorem R_slice (h : d.R e w base ok v xs) : ∃ A c, v = .slice A xs.length c := by
  obtain ⟨A, c, he, _⟩ := R_reads h
  exact ⟨A, c, he⟩
theorem R_own (h : d.R e w base ok v xs) : ∃ inner, w.ownsRow base e d.sz v xs.length inner := by
  obtain ⟨_, inner, ho, _⟩ := h
  exact ⟨inner, ho⟩
end
def scalar {α : Type} (enc : α → Value) (h1 : ∀ x, (enc x).oneCell' = true) : Kd α where
  sz := 1
  E := []
  K := fun _ x cs => cs = [enc x]
  M := fun _ _ _ x cs => cs = [enc x]
  K_len := fun h => by rw [h]; rfl
  K_one := fun h u hu => by
    rw [h] at hu
    rw [List.mem_singleton.1 hu]
    exact h1 _
  K_below := fun _ h => h
  K_of_M := fun h => h
  M_mono := fun _ h => h
  M_bound := fun h => h
  M_move := fun _ h => h
  M_lower := fun _ h => h
def int (k : IntKind) : Kd Int := scalar (Value.int k) (fun _ => rfl)
def bool : Kd Bool := scalar Value.bool (fun _ => rfl)
def string : Kd ByteArray := scalar Value.string (fun _ => rfl)
def slice {α : Type} (e : Nat) (d : Kd α) : Kd (List α) where
  sz := 1
  E := e :: d.E
  K := fun w xs cs => ∃ A c, cs = [.slice A xs.length c] ∧ xs.length ≤ c ∧ d.C w A xs.length xs
  M := fun w base ok xs cs => ∃ v, cs = [v] ∧ d.R e w base ok v xs
  K_len := by
    rintro w x cs ⟨A, c, rfl, _⟩
    rfl
  K_one := by
    rintro w x cs ⟨A, c, rfl, _⟩ u hu
    rw [List.mem_singleton.1 hu]
    rfl
  K_below := by
    rintro w w1 x cs hb ⟨A, c, rfl, hl, hr⟩
    exact ⟨A, c, rfl, hl, C_below hr hb⟩
  K_of_M := by
    rintro w base ok x cs ⟨v, rfl, h⟩
    obtain ⟨A, c, rfl, hl, hr⟩ := R_reads h
    exact ⟨A, c, rfl, hl, hr⟩
  M_mono := by
    rintro w base ok ok' x cs hok ⟨v, rfl, h⟩
    exact ⟨v, rfl, R_mono h hok⟩
  M_bound := by
    rintro w base ok x cs ⟨v, rfl, h⟩
    exact ⟨v, rfl, R_bound h⟩
  M_move := by
    rintro w w1 base ok x cs hm ⟨v, rfl, h⟩
    exact ⟨v, rfl, R_move h hm⟩
  M_lower := by
    rintro w base base' ok x cs hb ⟨v, rfl, h⟩
    exact ⟨v, rfl, R_lower h hb⟩
def pair {α β : Type} (a : Kd α) (b : Kd β) : Kd (α × β) where
  sz := a.sz + b.sz
  E := a.E ++ b.E
  K := fun w x cs => ∃ c0 c1, cs = c0 ++ c1 ∧ a.K w x.1 c0 ∧ b.K w x.2 c1
  M := fun w base ok x cs => ∃ c0 c1, cs = c0 ++ c1 ∧ a.M w base ok x.1 c0 ∧ b.M w base ok x.2 c1
  K_len := by
    rintro w x cs ⟨c0, c1, rfl, h0, h1⟩
    rw [List.length_append, a.K_len h0, b.K_len h1]
  K_one := by
    rintro w x cs ⟨c0, c1, rfl, h0, h1⟩ u hu
    rcases List.mem_append.1 hu with hu | hu
    · exact a.K_one h0 u hu
    · exact b.K_one h1 u hu
  K_below := by
    rintro w w1 x cs hb ⟨c0, c1, rfl, h0, h1⟩
    exact ⟨c0, c1, rfl, a.K_below hb h0, b.K_below hb h1⟩
  K_of_M := by
    rintro w base ok x cs ⟨c0, c1, rfl, h0, h1⟩
    exact ⟨c0, c1, rfl, a.K_of_M h0, b.K_of_M h1⟩
  M_mono := by
    rintro w base ok ok' x cs hok ⟨c0, c1, rfl, h0, h1⟩
    exact ⟨c0, c1, rfl, a.M_mono hok h0, b.M_mono hok h1⟩
  M_bound := by
    rintro w base ok x cs ⟨c0, c1, rfl, h0, h1⟩
    refine ⟨c0, c1, rfl, a.M_mono ?_ (a.M_bound h0), b.M_mono ?_ (b.M_bound h1)⟩
    · rintro k ⟨h2, h3, h4, q, hq, hc⟩
      exact ⟨h2, h3, h4, q, List.mem_append_left _ hq, hc⟩
    · rintro k ⟨h2, h3, h4, q, hq, hc⟩
      exact ⟨h2, h3, h4, q, List.mem_append_right _ hq, hc⟩
  M_move := by
    rintro w w1 base ok x cs hm ⟨c0, c1, rfl, h0, h1⟩
    exact ⟨c0, c1, rfl, a.M_move hm h0, b.M_move hm h1⟩
  M_lower := by
    rintro w base base' ok x cs hb ⟨c0, c1, rfl, h0, h1⟩
    exact ⟨c0, c1, rfl, a.M_lower hb h0, b.M_lower hb h1⟩
def iso {α β : Type} (d : Kd α) (f : β → α) : Kd β where
  sz := d.sz
  E := d.E
  K := fun w x cs => d.K w (f x) cs
  M := fun w base ok x cs => d.M w base ok (f x) cs
  K_len := d.K_len
  K_one := d.K_one
  K_below := d.K_below
  K_of_M := d.K_of_M
  M_mono := d.M_mono
  M_bound := d.M_bound
  M_move := d.M_move
  M_lower := d.M_lower
theorem C_get {α : Type} {d : Kd α} {w : World} {A : Option Addr} {n : Nat} {xs : List α} (h : d.C w A n xs) (z : α) (i : Int) (h0 : 0 ≤ i) (h1 : i < n) :
    ∃ ad c, A = some ad ∧ c.length = d.sz ∧ d.K w (xs.getD i.toNat z) c ∧ ∀ j u, c[j]? = some u → w.cell? (ad.add (i.toNat * d.sz + j)) = some u := ReadsRow.get_ h z i h0 h1
theorem R_appended {α : Type} {d : Kd α} {e base : Nat} {ok okp : Nat → Prop} {W w1 : World} {v v1 : Value} {xs : List α} {p : α} {inner cs : List Value} (h0 : ∀ k, v.ownBlock = some k → ok k) (hr : Reps (d.M W base (fun k => ok k ∧ some k ≠ v.ownBlock)) d.sz xs inner) (hp : d.M W base okp p cs) (hokp : ∀ k, okp k → ok k ∧ some k ≠ v.ownBlock) (hfresh : ∀ k, W.heap.size ≤ k → ok k)
    (hown : w1.ownsRow base e d.sz v1 (xs.length + 1) (inner ++ cs)) (hg : W.grownBy w1 v.ownBlock) (hat : v1.ownBlock = v.ownBlock ∨ ∃ b, v1.ownBlock = some b ∧ W.heap.size ≤ b) : d.R e w1 base ok v1 (xs ++ [p]) := by
  have hne : ∀ k, some k ≠ v.ownBlock → k < W.heap.size → some k ≠ v1.ownBlock := by
    intro k hk hlt
    rcases hat with hat | ⟨b, hb, hle⟩
    · rw [hat]; exact hk
    · rw [hb]
      intro he
      injection he with he
      omega
  have step : ∀ {q : α} {c : List Value} {o : Nat → Prop}, d.M W base o q c → (∀ k, o k → ok k ∧ some k ≠ v.ownBlock) → d.M w1 base (fun k => ok k ∧ some k ≠ v1.ownBlock) q c := by
    intro q c o hq ho
    have h1 := d.M_move (w1 := w1) (fun k hk => hg.block k hk.2.2.1 (ho k hk.1).2) (d.M_bound hq)
    exact d.M_mono (fun k hk => ⟨(ho k hk.1).1, hne k (ho k hk.1).2 hk.2.2.1⟩) h1
  refine ⟨fun k hk => ?_, inner ++ cs, by rw [List.length_append, List.length_singleton]; exact hown, ?_⟩
  · rcases hat with hat | ⟨b, hb, hle⟩
    · exact h0 k (hat ▸ hk)
    · rw [hb] at hk
      injection hk with hk
      exact hfresh k (by omega)
  · exact (hr.imp_ (fun _ _ hq => step hq (fun _ hk => hk))).snoc (step hp hokp) (d.K_len (d.K_of_M hp))
section
variable {P : Program} {ops : Array Oper} {rest : List Oper} {o : Oper} {a : Act} {Q : Exit → Act → World → Prop} {α : Type}
theorem R_append (d : Kd α) {w0 W : World} (base : Nat) (hgd : o.guard = none) (s x : Operand) (t e : TypeId) (z : Value) (bytes : Nat)
    (ho : o.op = .call { callee := .builtin .append, args := #[s, x], argTypes := #[t, t] })
    (ht : P.underlying t = some (.slice e)) (hinfo : (P.info? e).map (fun i => (i.zero, i.size, i.bytes)) = some (some z, d.sz, bytes)) (hz : z.cells.size = d.sz) (hs0 : 0 < d.sz) (hb0 : 0 < bytes)
    (v : Value) (xs : List α) (p : α) (cs : List Value) (ok okp : Nat → Prop) (hs : a.eval s = v) (hx : a.eval x = .slice (some ⟨W.heap.size, 0, none⟩) 1 1) (hp : d.M W base okp p cs) (hokp : ∀ k, okp k → ok k ∧ some k ≠ v.ownBlock) (hfresh : ∀ k, W.heap.size ≤ k → ok k)
    (HO : d.R e W base ok v xs) (HB : Below base w0 W) (hbase : base ≤ W.heap.size) (hl : (xs.length + 1) * bytes ≤ 140737488355328)
    (h : ∀ v1 w1, d.R e w1 base ok v1 (xs ++ [p]) → Below base w0 w1 → W.grownBy w1 v.ownBlock → (v1.ownBlock = v.ownBlock ∨ ∃ b, v1.ownBlock = some b ∧ W.heap.size ≤ b) → wpList P ops Q rest (a.put o.dst v1) w1) :
    wpList P ops Q (o :: rest) a (W.alloc (.cells cs.toArray e)) := by
  obtain ⟨h0, inner, hown, hr⟩ := HO
  refine print_append_cells base hgd s x t e z d.sz bytes ho ht hinfo hz hs0 hb0 v xs.length inner cs hs hx (d.K_len (d.K_of_M hp)) (d.K_one (d.K_of_M hp)) hown HB hbase hl ?_
  intro v1 w1 hown1 hb1 hg1 hat1
  exact h v1 w1 (R_appended h0 hr hp hokp hfresh hown1 hg1 hat1) hb1 hg1 hat1
end
theorem reps_scalar {α : Type} {enc : α → Value} (xs : List α) : Reps (fun (x : α) (cs : List Value) => cs = [enc x]) 1 xs (encs enc xs) := by
  refine ⟨by simp [encs], fun j p hj => ?_⟩
  obtain ⟨hl, hp⟩ := List.getElem?_eq_some_iff.1 hj
  have hl' : j < (encs enc xs).length := by rw [encs_length]; exact hl
  rw [Nat.mul_one, List.drop_eq_getElem_cons hl']
  simp [encs, hp]
theorem R_of_own {α : Type} {enc : α → Value} {h1 : ∀ x, (enc x).oneCell' = true} {e : Nat} {w : World} {base : Nat} {ok : Nat → Prop} {v : Value} {xs : List α} (ho : w.ownsRow base e 1 v xs.length (encs enc xs)) (hok : ∀ k, v.ownBlock = some k → ok k) : (scalar enc h1).R e w base ok v xs := ⟨hok, encs enc xs, ho, reps_scalar xs⟩
theorem own_of_R {α : Type} {enc : α → Value} {h1 : ∀ x, (enc x).oneCell' = true} {e : Nat} {w : World} {base : Nat} {ok : Nat → Prop} {v : Value} {xs : List α} (h : (scalar enc h1).R e w base ok v xs) : w.ownsRow base e 1 v xs.length (encs enc xs) := by
  obtain ⟨_, inner, ho, hr⟩ := h
  have : inner = encs enc xs := by
    apply List.ext_getElem?
    intro j
    rcases Nat.lt_or_ge j xs.length with hj | hj
    · have h2 := hr.2 j _ (List.getElem?_eq_getElem hj)
      have hl : j < inner.length := by have := hr.1; simp [scalar] at this; omega
      have h3 : (inner.drop (j * 1)).take 1 = [enc xs[j]] := h2
      rw [Nat.mul_one, List.drop_eq_getElem_cons hl] at h3
      have h4 : inner[j] = enc xs[j] := by
        have h5 := congrArg List.head? h3
        rw [List.take_succ_cons] at h5
        exact Option.some.inj h5
      rw [List.getElem?_eq_getElem hl, h4]
      simp [encs, List.getElem?_eq_getElem hj]
    · have h3 : inner.length = xs.length := by have := hr.1; simp [scalar] at this; omega
      rw [List.getElem?_eq_none (by omega), List.getElem?_eq_none (by rw [encs_length]; omega)]
  rw [← this]
  exact ho
theorem C_of_reads {α : Type} {enc : α → Value} {d : α} {h1 : ∀ x, (enc x).oneCell' = true} {w : World} {A : Option Addr} {n : Nat} {xs : List α} (h : ReadsOf enc d w A n xs) : (scalar enc h1).C w A n xs := by
  refine ⟨h.1, h.2.1, fun hn => ?_⟩
  obtain ⟨ad, e, hc⟩ := h.2.2 hn
  refine ⟨ad, e, fun j p hj => ⟨[enc p], rfl, rfl, fun i u hu => ?_⟩⟩
  obtain ⟨hl, hp⟩ := List.getElem?_eq_some_iff.1 hj
  have h2 := hc j (by have := h.1; omega)
  rw [List.getD_eq_getElem?_getD, hj] at h2
  cases i with
  | zero =>
    have : enc p = u := by simpa using hu
    subst this
    simpa [scalar] using h2
  | succ i => simp at hu
theorem reads_of_C {α : Type} {enc : α → Value} {d : α} {h1 : ∀ x, (enc x).oneCell' = true} {w : World} {A : Option Addr} {n : Nat} {xs : List α} (h : (scalar enc h1).C w A n xs) : ReadsOf enc d w A n xs := by
  refine ⟨h.1, h.2.1, fun hn => ?_⟩
  obtain ⟨ad, e, hc⟩ := h.2.2 hn
  refine ⟨ad, e, fun j hj => ?_⟩
  have hl : j < xs.length := by have := h.1; omega
  obtain ⟨c, _, hK, hcell⟩ := hc j _ (List.getElem?_eq_getElem hl)
  have hK' : c = [enc xs[j]] := hK
  subst hK'
  have := hcell 0 _ rfl
  simpa [scalar, List.getD_eq_getElem?_getD, List.getElem?_eq_getElem hl] using this
end Kd
namespace Kd
structure Mono {α β : Type} (F : Kd α → Kd β) : Prop where
  sz : ∀ d d' : Kd α, d.sz = d'.sz → (F d).sz = (F d').sz
  K : ∀ d d' : Kd α, d.sz = d'.sz → (∀ w x cs, d.K w x cs → d'.K w x cs) → ∀ w x cs, (F d).K w x cs → (F d').K w x cs
  M : ∀ d d' : Kd α, d.sz = d'.sz → (∀ w base ok x cs, d.M w base ok x cs → d'.M w base ok x cs) → ∀ w base ok x cs, (F d).M w base ok x cs → (F d').M w base ok x cs
end Kd
namespace Kd
section
variable {α β : Type} {d : Kd α} {d' : Kd β} {e e' : Nat} {w w1 W : World} {base b b' : Nat} {ok ok' okv oku : Nat → Prop} {v u : Value} {xs : List α} {ys : List β}
theorem R_alloc (h : d.R e w base ok v xs) (o : Obj) : d.R e (w.alloc o) base ok v xs := R_below h (below_alloc (Below.refl _ _) o)
theorem R_drew (h : d.R e w base ok v xs) : d.R e w.drew base ok v xs := R_below h (below_drew (Below.refl _ _))
theorem R_drewN (h : d.R e w base ok v xs) (m : Nat) : d.R e (w.drewN m) base ok v xs := R_below h (pw_below_drewN (Below.refl _ _) m)
theorem C_alloc {A : Option Addr} {n : Nat} (h : d.C w A n xs) (o : Obj) : d.C (w.alloc o) A n xs := C_below h (below_alloc (Below.refl _ _) o)
theorem C_drew {A : Option Addr} {n : Nat} (h : d.C w A n xs) : d.C w.drew A n xs := C_below h (below_drew (Below.refl _ _))
theorem C_drewN {A : Option Addr} {n : Nat} (h : d.C w A n xs) (m : Nat) : d.C (w.drewN m) A n xs := C_below h (pw_below_drewN (Below.refl _ _) m)
theorem C_nil (d : Kd α) (w : World) : d.C w none ([] : List α).length [] := ⟨rfl, by simp, fun h => absurd h (Nat.lt_irrefl 0)⟩
theorem R_reads' {A : Option Addr} {n c : Nat} (h : d.R e w base ok (.slice A n c) xs) : n = xs.length ∧ n ≤ c ∧ d.C w A xs.length xs := by
  obtain ⟨A', c', he, hl, hr⟩ := R_reads h
  injection he with h1 h2 h3
  subst h1
  exact ⟨h2, by omega, hr⟩
theorem R_form (h : d.R e w base ok v xs) (hp : 0 < xs.length) : ∃ g cap, v = .slice (some ⟨g, 0, none⟩) xs.length cap ∧ base ≤ g ∧ g < w.heap.size ∧ ∃ cells, w.heap[g]? = some (.cells cells e (0, 0)) := by
  obtain ⟨inner, ho⟩ := R_own h
  obtain ⟨g, cap, he, hb, hl⟩ := ho.form hp
  obtain ⟨cells, hc⟩ := own_typed ho g (by rw [he]; simp [Value.ownBlock])
  exact ⟨g, cap, he, hb, hl, cells, hc⟩
end
section
variable {w W : World} {A : Option Addr} {n : Nat}
theorem at_int {k : IntKind} {xs : List Int} (h : (Kd.int k).C w A n xs) (i : Int) (h0 : 0 ≤ i) (h1 : i < n) : ∃ ad, A = some ad ∧ w.cell? (ad.add i.toNat) = some (.int k (rd xs i)) :=
  ReadsOf.at_ (reads_of_C (enc := Value.int k) (d := (0 : Int)) (h1 := fun _ => rfl) h) i h0 h1
theorem at_string {xs : List ByteArray} (h : Kd.string.C w A n xs) (i : Int) (h0 : 0 ≤ i) (h1 : i < n) : ∃ ad, A = some ad ∧ w.cell? (ad.add i.toNat) = some (.string (rdOf ByteArray.empty xs i)) :=
  ReadsOf.at_ (reads_of_C (enc := Value.string) (d := ByteArray.empty) (h1 := fun _ => rfl) h) i h0 h1
variable {α : Type} {enc : α → Value} {h1 : ∀ x, (enc x).oneCell' = true} {e base g cap : Nat} {ok : Nat → Prop} {xs : List α}
theorem R_cell (d : α) (h : (scalar enc h1).R e W base ok (.slice (some ⟨g, 0, none⟩) xs.length cap) xs) (i : Int) (h0 : 0 ≤ i) (hi : i < xs.length) : W.cell? ⟨g, i.toNat, none⟩ = some (enc (rdOf d xs i)) ∧ W.frozen? ⟨g, i.toNat, none⟩ = false := own_at_of (own_of_R h) i h0 hi
theorem R_put (h : (scalar enc h1).R e W base ok (.slice (some ⟨g, 0, none⟩) xs.length cap) xs) (i : Int) (x : α) : (scalar enc h1).R e (W.setCell ⟨g, i.toNat, none⟩ (enc x)) base ok (.slice (some ⟨g, 0, none⟩) xs.length cap) (xs.set i.toNat x) ∧ W.grownBy (W.setCell ⟨g, i.toNat, none⟩ (enc x)) (some g) := by
  obtain ⟨ho, hg⟩ := own_store_of (own_of_R h) i x
  exact ⟨R_of_own (by rw [List.length_set]; exact ho) h.1, hg⟩
end
section
variable {P : Program} {ops : Array Oper} {rest : List Oper} {o : Oper} {a : Act} {Q : Exit → Act → World → Prop}
theorem event_run {W w1 : World} {v : Value} (hgd : o.guard = none) (hrun : (execOp a.eval o).run P W = .ok (.value v) w1) (h : wpList P ops Q rest (a.put o.dst v) w1) : wpList P ops Q (o :: rest) a W := by
  refine wpList_plain hgd fun K hK => ?_
  unfold Oper.wp
  rw [hrun]
  exact hK _ _ h
variable {α : Type}
theorem R_lit (d : Kd α) {w0 W : World} (base e : Nat) (hgd : o.guard = none) {N : Tmp} (_hd : o.dst = some N) {xs : List α} {inner : List Value} {ok okp : Nat → Prop}
    (hrun : (execOp a.eval o).run P W = .ok (.value (.slice (some ⟨W.heap.size, 0, none⟩) xs.length xs.length)) (W.alloc (.cells inner.toArray e)))
    (hrep : Reps (d.M W base okp) d.sz xs inner) (hok : ∀ k, okp k → ok k) (hfresh : ok W.heap.size) (HB : Below base w0 W) (hbase : base ≤ W.heap.size) (hm : xs.length ≤ 9223372036854775807)
    (h : ∀ v1 w1, d.R e w1 base ok v1 xs → Below base w0 w1 → W.grownBy w1 none → (∃ b, v1.ownBlock = some b ∧ W.heap.size ≤ b) → wpList P ops Q rest (a.put o.dst v1) w1) : wpList P ops Q (o :: rest) a W := by
  refine event_run hgd hrun (h _ _ ⟨fun k hk => ?_, inner, ?_, ?_⟩ (HB.alloc hbase _) (World.grownBy_alloc W _ none) ⟨W.heap.size, by simp [Value.ownBlock], Nat.le_refl _⟩)
  · have : W.heap.size = k := by simpa [Value.ownBlock] using hk
    subst this
    exact hfresh
  · have h2 := World.ownsRow_lit (base := base) (e := e) (size := d.sz) W inner.toArray xs.length hbase (by simpa [maxLen] using hm) (by simpa using hrep.1)
    simpa using h2
  · refine hrep.imp_ (fun p c hp => d.M_mono (fun k hk => ⟨hok k hk.1, fun he => ?_⟩) (M_below (d.M_bound hp) (below_alloc (Below.refl _ _) _)))
    have h3 : k = W.heap.size := by simpa [Value.ownBlock] using he
    have := hk.2.2.1
    omega
theorem reps_made {α : Type} {R : α → List Value → Prop} {z : Value} {size : Nat} {z0 : α} (hz : z.cells.size = size) (hs : 0 < size) (h0 : R z0 z.cells.toList) (m : Nat) : Reps R size (List.replicate m z0) (madeCells z.cells (m * size)).toList := by
  refine ⟨by simp [size_madeCells], fun j p hj => ?_⟩
  obtain ⟨hjl, hp⟩ := List.getElem?_eq_some_iff.1 hj
  have hjm : j < m := by simpa using hjl
  have hp' : z0 = p := by simpa using hp
  subst hp'
  have hle : j * size + size ≤ m * size := by rw [← Nat.succ_mul]; exact Nat.mul_le_mul_right _ hjm
  have : ((madeCells z.cells (m * size)).toList.drop (j * size)).take size = z.cells.toList := by
    apply List.ext_getElem
    · simp [size_madeCells, hz]
      omega
    · intro i h1 h2
      have hi : i < size := by rw [Array.length_toList, hz] at h2; exact h2
      have hmod : (j * size + i) % size = i := by
        rw [Nat.mul_comm, Nat.mul_add_mod]
        exact Nat.mod_eq_of_lt hi
      simp [madeCells, hz, hmod]
      rw [getElem!_pos z.cells i (by omega)]
  rw [this]
  exact h0
theorem R_make (d : Kd α) {w0 W : World} (base e : Nat) (hgd : o.guard = none) {N : Tmp} (hd : o.dst = some N) (t : TypeId) (x y : Operand) (ho : o.op = .makeSlice t x y) (n : Int) (hx : a.eval x = .int .i64 n) (hy : a.eval y = .int .i64 n)
    (ht : P.underlying t = some (.slice e)) (z : Value) (bytes : Nat) (hinfo : (P.info? e).map (fun i => (i.zero, i.size, i.bytes)) = some (some z, d.sz, bytes)) (hz : z.cells.size = d.sz) (hs0 : 0 < d.sz) (hb0 : 0 < bytes)
    (z0 : α) {ok okp : Nat → Prop} (hzero : d.M W base okp z0 z.cells.toList) (hok : ∀ k, okp k → ok k) (hfresh : ok W.heap.size) (h0 : 0 ≤ n) (hl : n.toNat * bytes ≤ 281474976710656) (HB : Below base w0 W) (hbase : base ≤ W.heap.size)
    (h : ∀ v1 w1, d.R e w1 base ok v1 (List.replicate n.toNat z0) → Below base w0 w1 → W.grownBy w1 none → (∃ b, v1.ownBlock = some b ∧ W.heap.size ≤ b) → wpList P ops Q rest (a.put o.dst v1) w1) : wpList P ops Q (o :: rest) a W := by
  obtain ⟨m, rfl⟩ := Int.eq_ofNat_of_zero_le h0
  simp only [Int.toNat_natCast] at hl h
  obtain ⟨i0, hi, hzz⟩ := Option.map_eq_some_iff.1 hinfo
  simp only [Prod.mk.injEq] at hzz
  obtain ⟨hz0, hz1, hz2⟩ := hzz
  have hm : m ≤ 281474976710656 := Nat.le_trans (Nat.le_mul_of_pos_right _ hb0) hl
  have hr := run_make (P := P) W t e i0 z ht hi hz0 .i64 .i64 (m : Int) (m : Int) (by omega) (by omega)
    (by
      have h3 : ((i0.bytes * m : Nat) : Int) ≤ 281474976710656 := by rw [hz2, Nat.mul_comm]; omega
      rwa [Int.natCast_mul] at h3) (by omega)
  simp only [Int.toNat_natCast] at hr
  rw [hz1] at hr
  refine R_lit d base e hgd hd (xs := List.replicate m z0) (inner := (madeCells z.cells (m * d.sz)).toList) (okp := okp) (ok := ok) ?_ (reps_made hz hs0 hzero m) hok hfresh HB hbase (by simp; omega) h
  simp [execOp, ho, hx, hy, hr]
end
end Kd
def QRow (w : World) (base : Nat) (e : TypeId) (size : Nat) (v : Value) (n : Nat) (xs : List Value) : Prop :=
  xs.length = n * size ∧
  ((n = 0 ∧ ∃ A, v = .slice A 0 0 ∧ ∀ a, A = some a → base ≤ a.block ∧ ∃ cur, w.heap[a.block]? = some (.cells cur e (0, 0))) ∨
   ∃ g off cap cur, v = .slice (some ⟨g, off * size, none⟩) n cap ∧ base ≤ g ∧ w.heap[g]? = some (.cells cur e (0, 0)) ∧ n ≤ cap ∧ off + cap ≤ maxLen ∧ cur.size = (off + cap) * size ∧ (cur.toList.drop (off * size)).take (n * size) = xs)
section
variable {w w1 : World} {base n size : Nat} {e : TypeId} {v : Value} {xs : List Value}
theorem q_of_own (h : w.ownsRow base e size v n xs) : QRow w base e size v n xs := by
  obtain ⟨h1, h2⟩ := h
  refine ⟨h1, ?_⟩
  rcases h2 with ⟨rfl, h0⟩ | ⟨g, cap, cur, rfl, hb, hh, hnc, hcm, hcs, ht⟩
  · exact .inl ⟨h0, none, rfl, fun a ha => by cases ha⟩
  · exact .inr ⟨g, 0, cap, cur, by rw [Nat.zero_mul], hb, hh, hnc, by rw [Nat.zero_add]; exact hcm, by rw [Nat.zero_add]; exact hcs, by rw [Nat.zero_mul, List.drop_zero]; exact ht⟩
theorem add_at (g o j : Nat) : (⟨g, o, none⟩ : Addr).add j = ⟨g, o + j, none⟩ := by unfold Addr.add; split <;> simp_all
theorem setCells_row {g : Nat} {e : TypeId} : ∀ (vs : List Value) (o : Nat) (w : World) (cur : Array Value), w.heap[g]? = some (.cells cur e (0, 0)) → o + vs.length ≤ cur.size →
    ∃ cur', (w.setCells g o vs).heap[g]? = some (.cells cur' e (0, 0)) ∧ cur'.size = cur.size ∧ cur'.toList = cur.toList.take o ++ vs ++ cur.toList.drop (o + vs.length)
  | [], o, w, cur, h, _ => ⟨cur, h, rfl, by simp⟩
  | v :: r, o, w, cur, h, hl => by
    have h2 := blk_set h o v
    simp only [List.length_cons] at hl
    obtain ⟨cur', h3, h4, h5⟩ := setCells_row r (o + 1) (w.setCell ⟨g, o, none⟩ v) _ h2 (by simp; omega)
    refine ⟨cur', h3, by rw [h4]; simp, ?_⟩
    rw [h5, Array.toList_setIfInBounds]
    have ho : o < cur.toList.length := by rw [Array.length_toList]; omega
    rw [List.take_set, List.drop_set_of_lt (by omega)]
    simp only [List.length_cons]
    rw [show o + 1 + r.length = o + (r.length + 1) by omega]
    congr 1
    rw [List.take_succ_eq_append_getElem ho, List.set_append_right _ _ (by rw [List.length_take]; omega)]
    have ho' : o < cur.size := by omega
    simp [Nat.min_eq_left (Nat.le_of_lt ho')]
end
namespace Kd
def Q {α : Type} (d : Kd α) (e : Nat) (w : World) (base : Nat) (ok : Nat → Prop) (v : Value) (xs : List α) : Prop :=
  (∀ k, v.ownBlock = some k → ok k) ∧ ∃ inner, QRow w base e d.sz v xs.length inner ∧ Reps (d.M w base (fun k => ok k ∧ some k ≠ v.ownBlock)) d.sz xs inner
section
variable {α : Type} {d : Kd α} {e : Nat} {w w1 W : World} {base : Nat} {ok ok' : Nat → Prop} {v : Value} {xs : List α}
theorem Q_of_R (h : d.R e w base ok v xs) : d.Q e w base ok v xs := by
  obtain ⟨h0, inner, ho, hr⟩ := h
  exact ⟨h0, inner, q_of_own ho, hr⟩
theorem Q_nil (d : Kd α) (e : Nat) (w : World) (base : Nat) (ok : Nat → Prop) : d.Q e w base ok (.slice none 0 0) [] := Q_of_R (R_nil d e w base ok)
end
end Kd
namespace Kd
section
variable {α : Type} {d : Kd α} {e e' : Nat} {w w1 W : World} {base : Nat} {ok : Nat → Prop} {u v : Value} {xs : List α}
theorem R_typed (h : d.R e w base ok v xs) : ∀ k, v.ownBlock = some k → ∃ cells, w.heap[k]? = some (.cells cells e (0, 0)) := by
  obtain ⟨inner, ho⟩ := R_own h
  exact fun k hk => own_typed ho k hk
theorem R_over' (h : d.R e W base ok u xs) (hty : ∀ k, v.ownBlock = some k → ∃ cells, W.heap[k]? = some (.cells cells e' (0, 0))) (ht : ∀ q, q ∈ e :: d.E → q ≠ e') (hg : W.grownBy w1 v.ownBlock) : d.R e w1 base ok u xs := by
  refine R_mono (R_move (R_bound h) (fun k hk => hg.block k hk.2.2.1 (fun he => ?_))) (fun _ hk => hk.1)
  obtain ⟨_, _, _, q, hq, cells, hc⟩ := hk
  obtain ⟨cells', hc'⟩ := hty k he.symm
  rw [hc] at hc'
  injection hc' with hc'
  injection hc' with _ hc'
  exact ht q hq hc'
end
end Kd
theorem add_add (a : Addr) (i j : Nat) : (a.add i).add j = a.add (i + j) := by
  unfold Addr.add
  by_cases h1 : i = 0 <;> by_cases h2 : j = 0 <;> simp [h1, h2, Nat.add_assoc]
theorem string_of_reads {P : Program} {w : World} {src dst e : TypeId} {A : Option Addr} {n c : Nat} {xs : List Int} (hs : P.underlying src = some (.slice e)) (he : P.underlying e = some (.int .u8)) (hd : P.underlying dst = some .string)
    (h : ReadsInt w .u8 A n xs) : (convert src dst (.slice A n c)).run P w = .ok (.string (strOfNums xs)) w := by
  have hn : xs.length = n := h.1
  rcases A with _ | ad
  · have h0 : n = 0 := by
      rcases Nat.eq_zero_or_pos n with h0 | h0
      · exact h0
      · obtain ⟨ad, h', _⟩ := h.2.2 h0
        cases h'
    subst h0
    obtain rfl : xs = [] := List.eq_nil_of_length_eq_zero hn
    exact run_convert_bytes_nil w src e hs he 0 c dst hd
  · have hl : (loadCells ad n).run P w = .ok (xs.map (Value.int .u8)).toArray w := by
      have := run_loadCells_list (P := P) w ad (xs.map (Value.int .u8)) (fun j v hj => by
        have hjl : j < xs.length := by
          rcases Nat.lt_or_ge j xs.length with h' | h'
          · exact h'
          · rw [List.getElem?_eq_none (by rw [List.length_map]; exact h')] at hj
            cases hj
        obtain ⟨ad', he', hc⟩ := h.2.2 (by omega)
        injection he' with he'
        subst he'
        rw [hc j (by omega)]
        rw [List.getElem?_map, List.getElem?_eq_getElem hjl] at hj
        simp at hj
        subst hj
        simp [List.getD_eq_getElem?_getD, List.getElem?_eq_getElem hjl])
      simpa [hn] using this
    rw [run_convert_bytes_string w src dst e _ n c hs he hd, run_bytesToString w ad n c xs hl, foldl_push_bytes]
    simp [strOfNums, ByteArray.empty, ByteArray.emptyWithCapacity]
    rfl
theorem Kd.C_string {P : Program} {w : World} {src dst e : TypeId} {A : Option Addr} {n c : Nat} {xs : List Int} (hs : P.underlying src = some (.slice e)) (he : P.underlying e = some (.int .u8)) (hd : P.underlying dst = some .string)
    (h : (Kd.int .u8).C w A n xs) : (convert src dst (.slice A n c)).run P w = .ok (.string (strOfNums xs)) w :=
  string_of_reads hs he hd (Kd.reads_of_C (enc := Value.int .u8) (d := (0 : Int)) (h1 := fun _ => rfl) h)
theorem below_size {w W : World} (h : Below w.heap.size w W) : w.heap.size ≤ W.heap.size := h.size
theorem below_step {w W w2 : World} (h : Below w.heap.size w W) (k : Below W.heap.size W w2) : Below w.heap.size w w2 := below_then h h.size k
theorem ReadsInt.nil (W : World) (k : IntKind) : ReadsInt W k none ([] : List Int).length [] := ⟨rfl, by simp, fun h => absurd h (Nat.lt_irrefl 0)⟩
theorem ReadsInt.drewN {W : World} {k : IntKind} {A : Option Addr} {n : Nat} {xs : List Int} (h : ReadsInt W k A n xs) (m : Nat) : ReadsInt (W.drewN m) k A n xs := h
theorem below_set {w W : World} {g j : Nat} {v : Value} (h : Below w.heap.size w W) (hg : w.heap.size ≤ g) : Below w.heap.size w (W.setCell ⟨g, j, none⟩ v) := h.setCell hg _
theorem keep_cell {w W : World} {g : Nat} (h : KeepBut w W g none) {a : Addr} {v : Value} (hc : w.cell? a = some v) (hne : a.block ≠ g) : W.cell? a = some v := by
  have := h.2 a.block (World.block_lt_of_cell? w a hc) hne (by simp)
  simpa [World.cell?, this] using hc
theorem add_block (a : Addr) (i : Nat) : (a.add i).block = a.block := by unfold Addr.add; split <;> rfl
theorem ReadsOf.nil {α : Type} (enc : α → Value) (d : α) (W : World) : ReadsOf enc d W none ([] : List α).length [] := ⟨rfl, by simp, fun h => absurd h (Nat.lt_irrefl 0)⟩
theorem ReadsOf.drewN {α : Type} {enc : α → Value} {d : α} {W : World} {A : Option Addr} {n : Nat} {xs : List α} (h : ReadsOf enc d W A n xs) (m : Nat) : ReadsOf enc d (W.drewN m) A n xs := h
theorem ReadsInt.keep {w W : World} {k : IntKind} {A : Option Addr} {n g : Nat} {xs : List Int} (h : ReadsInt w k A n xs) (hk : KeepBut w W g none) (hf : ∀ ad, A = some ad → 0 < n → ad.block ≠ g) : ReadsInt W k A n xs :=
  ⟨h.1, h.2.1, fun hn => by
    obtain ⟨ad, e, hc⟩ := h.2.2 hn
    exact ⟨ad, e, fun j hj => keep_cell hk (hc j hj) (by rw [add_block]; exact hf ad e hn)⟩⟩
theorem ReadsOf.keep {α : Type} {enc : α → Value} {d : α} {w W : World} {A : Option Addr} {n g : Nat} {xs : List α} (h : ReadsOf enc d w A n xs) (hk : KeepBut w W g none) (hf : ∀ ad, A = some ad → 0 < n → ad.block ≠ g) : ReadsOf enc d W A n xs :=
  ⟨h.1, h.2.1, fun hn => by
    obtain ⟨ad, e, hc⟩ := h.2.2 hn
    exact ⟨ad, e, fun j hj => keep_cell hk (hc j hj) (by rw [add_block]; exact hf ad e hn)⟩⟩
theorem below_drew1 {base : Nat} {w W : World} (h : Below base w W) : Below base w W.drew := h.drew
section
variable {P : Program} {ops : Array Oper} {rest : List Oper} {o : Oper} {a : Act} {Q : Exit → Act → World → Prop}
theorem box_event {W : World} (hgd : o.guard = none) {N : Tmp} (_hd : o.dst = some N) {cs : Array Value} {t : TypeId}
    (hrun : (execOp a.eval o).run P W = .ok (.value (.pointer (some ⟨W.heap.size, 0, none⟩))) (W.alloc (.cells cs t (0, 0))))
    (h : ∀ g, g = W.heap.size → ∀ w1, w1.heap[g]? = some (.cells cs t (0, 0)) → Below W.heap.size W w1 → wpList P ops Q rest (a.put o.dst (.pointer (some ⟨g, 0, none⟩))) w1) : wpList P ops Q (o :: rest) a W :=
  Kd.event_run hgd hrun (h _ rfl _ (blk_new W _) (below_alloc (Below.refl _ _) _))
end
namespace Kd
section
variable {α : Type} {enc : α → Value} {h1 : ∀ x, (enc x).oneCell' = true} {e base g n cap : Nat} {ok : Nat → Prop} {W : World} {xs : List α}
theorem R_celln (d : α) (h : (scalar enc h1).R e W base ok (.slice (some ⟨g, 0, none⟩) n cap) xs) (i : Int) (h0 : 0 ≤ i) (hi : i < n) : W.cell? ⟨g, i.toNat, none⟩ = some (enc (rdOf d xs i)) ∧ W.frozen? ⟨g, i.toNat, none⟩ = false := by
  obtain ⟨rfl, _⟩ := R_reads' h
  exact R_cell d h i h0 hi
end
end Kd
section
variable {P : Program} {ops : Array Oper} {rest : List Oper} {o : Oper} {a : Act} {Q : Exit → Act → World → Prop}
theorem store_event {W w1 : World} (hgd : o.guard = none) {t : TypeId} {p : Tmp} {v : Operand} (_ho : o.op = .store t (.tmp p) v) (hN : o.dst = none)
    (hrun : (execOp a.eval o).run P W = .ok .skip w1) (h : ∀ w', w' = w1 → wpList P ops Q rest a w') : wpList P ops Q (o :: rest) a W := by
  refine wpList_plain hgd fun K hK => ?_
  unfold Oper.wp
  rw [hrun]
  show K (a.put o.dst undef) w1
  rw [hN]
  exact hK _ _ (h _ rfl)
end
namespace Kd
section
variable {α : Type} {enc : α → Value} {h1 : ∀ x, (enc x).oneCell' = true} {e base g n cap : Nat} {ok : Nat → Prop} {W : World} {xs : List α}
theorem R_putg (h : (scalar enc h1).R e W base ok (.slice (some ⟨g, 0, none⟩) n cap) xs) (i : Int) (x : α) : (scalar enc h1).R e (W.setCell ⟨g, i.toNat, none⟩ (enc x)) base ok (.slice (some ⟨g, 0, none⟩) n cap) (xs.set i.toNat x) ∧ W.grownBy (W.setCell ⟨g, i.toNat, none⟩ (enc x)) (some g) := by
  obtain ⟨rfl, _⟩ := R_reads' h
  exact R_put h i x
end
end Kd
section
variable {P : Program} {ops : Array Oper} {rest : List Oper} {o : Oper} {a : Act} {Q : Exit → Act → World → Prop} {W : World}
theorem gate_dst {N : Tmp} (_hN : o.dst = some N) (h : wpList P ops Q (o :: rest) a W) : wpList P ops Q (o :: rest) a W := h
theorem gate_store {t : TypeId} {p : Tmp} {v : Operand} (_ho : o.op = .store t (.tmp p) v) (h : wpList P ops Q (o :: rest) a W) : wpList P ops Q (o :: rest) a W := h
end
section
variable {P : Program} {ops : Array Oper} {o : Oper} {a : Act} {Q : Exit → Act → World → Prop} {Kc : Act → World → Prop}
theorem event_step {W w1 : World} {v : Value} (hw : Region.wanted o (yielded ops a.tmps) = true) (hrun : (execOp a.eval o).run P W = .ok (.value v) w1) (h : Kc (a.put o.dst v) w1) : if Region.wanted o (yielded ops a.tmps) = true then Oper.wp P o a W Kc Q else Kc (a.put o.dst undef) W := by
  rw [if_pos hw]
  unfold Oper.wp
  rw [hrun]
  exact h
end
inductive Vals (P : Program) (tmps : Array Value) (w : World) : List ResultVar → List Value → Prop where
  | nil : Vals P tmps w [] []
  | tmp {u : Tmp} {rs : List ResultVar} {vs : List Value} (h : Vals P tmps w rs vs) : Vals P tmps w (.tmp u :: rs) (tmps.getD u undef :: vs)
  | cell {p : Tmp} {ty : TypeId} {rs : List ResultVar} {vs : List Value} (g : Nat) (t : TypeId) (cs : Array Value) (fr : Nat × Nat) (d : TypeDesc)
      (hp : tmps.getD p undef = .pointer (some ⟨g, 0, none⟩)) (hg : w.heap[g]? = some (.cells cs t fr))
      (hu : P.underlying ty = some d) (hd : (match d with | .struct _ | .array _ _ => true | _ => false) = true) (hi : (P.info? ty).map (·.size) = some cs.size)
      (h : Vals P tmps w rs vs) : Vals P tmps w (.cell p ty :: rs) (.agg cs :: vs)
end Go.Proofs.YtdleomeiojlooaaW.PrintWords
end

section
namespace Go.Proofs.YtdleomeiojlooaaW.PrintLast
section
variable {P : Program} {ops : Array Oper} {Q : Exit → Act → World → Prop} {md : Region.Mode} {S : World → Prop} {ds : List Nat}
def ListedClosed (md : Region.Mode) (ops : Array Oper) (listed : Array Bool) : Prop :=
  ∀ j oj, ops[j]? = some oj → listed.getD j false = true → ∀ e ∈ oj.after, Region.binds md e = true → listed.getD e.on false = true
theorem ListedClosed.set {listed : Array Bool} {i : Nat} (h : ListedClosed md ops listed) (hi : i ∈ Region.ready md ops listed) : ListedClosed md ops (listed.setIfInBounds i true) := by
  obtain ⟨_, oi, hoi, hall⟩ := mem_ready.1 hi
  intro j oj hj hl e he hb
  by_cases hij : i = j
  · subst hij
    have : oj = oi := Option.some.inj (hj.symm.trans hoi)
    subst this
    exact getD_set_true (hall e he hb)
  · rw [getD_set_ne false hij] at hl
    exact getD_set_true (h j oj hj hl e he hb)
def wpAnyLast (P : Program) (md : Region.Mode) (ops : Array Oper) (Q : Exit → Act → World → Prop) (S : World → Prop) (ds : List Nat) : Nat → Array Bool → Act → World → Prop
  | 0, listed, a, w => Region.ready md ops listed = [] ∧ Q .normal a w
  | fuel + 1, listed, a, w =>
    (Region.ready md ops listed = [] → Q .normal a w) ∧
    ∀ i ∈ Region.ready md ops listed, wpOp P ops Q i (fun a' w' => (i ∉ ds → S w → S w') ∧ wpAnyLast P md ops Q S ds fuel (listed.setIfInBounds i true) a' w') a w
theorem wpAny_of_last : ∀ (fuel : Nat) (listed : Array Bool) (a : Act) (w : World), wpAnyLast P md ops Q S ds fuel listed a w → wpAny P md ops Q fuel listed a w
  | 0, _, _, _, h => h
  | fuel + 1, _, _, _, h => ⟨h.1, fun i hi => wpOp_mono (fun a' w' h' => wpAny_of_last fuel _ a' w' h'.2) (h.2 i hi)⟩
theorem wp_region_last {id : Nat} {a : Act} {w : World} (hm : P.follows .mixedOrders = true)
    (h : wpAnyLast P .any ops Q S ds ops.size (Array.replicate ops.size false) a { w with drawn := w.drawn + 1 }) : (Code.region id ops true).wp P Q a w :=
  wp_region_any hm (wpAny_of_last _ _ _ _ h)
end
section
variable {P : Program} {ops : Array Oper} {Q : Exit → Act → World → Prop} {md : Region.Mode} {S : World → Prop} {ds : List Nat}
def AllReadyL (P : Program) (md : Region.Mode) (ops : Array Oper) (Q : Exit → Act → World → Prop) (S : World → Prop) (ds : List Nat) (fuel : Nat) (listed : Array Bool) (a : Act) (w : World) (rs : List Nat) : Prop :=
  ∀ i ∈ rs, wpOp P ops Q i (fun a' w' => (i ∉ ds → S w → S w') ∧ wpAnyLast P md ops Q S ds fuel (listed.setIfInBounds i true) a' w') a w
theorem AllReadyL.nil {fuel : Nat} {listed : Array Bool} {a : Act} {w : World} : AllReadyL P md ops Q S ds fuel listed a w [] := fun _ h => by cases h
theorem AllReadyL.cons {fuel : Nat} {listed : Array Bool} {a : Act} {w : World} {i : Nat} {o : Oper} {rs : List Nat} (ho : ops[i]? = some o) (hd : i ∉ ds)
    (h : ∀ K' : Act → World → Prop, Shut (∀ a w, S w → (S w → wpAnyLast P md ops Q S ds fuel (listed.setIfInBounds i true) a w) → K' a w) → if Region.wanted o (yielded ops a.tmps) = true then Oper.wp P o a w K' Q else K' (a.put o.dst undef) w)
    (hs : AllReadyL P md ops Q S ds fuel listed a w rs) : AllReadyL P md ops Q S ds fuel listed a w (i :: rs) := fun j hj => by
  rcases List.mem_cons.1 hj with rfl | hj
  · exact wpOp_step ho (fun K' hK => h K' (fun a w hS hW => hK a w ⟨fun _ _ => hS, hW hS⟩))
  · exact hs j hj
theorem start_ {id n : Nat} {a : Act} {w : World} (l : Array Bool) (hm : P.follows .mixedOrders = true) (hn : ops.size = n) (hl : Array.replicate n false = l) (hS : S w.drew)
    (h : S w.drew → wpAnyLast P .any ops Q S ds n l a w.drew) : (Code.region id ops true).wp P Q a w := by
  subst hn
  subst hl
  exact wp_region_last hm (h hS)
theorem call_ {oi : Oper} {N : Option Tmp} {a : Act} {w : World} {K : Act → World → Prop} (f : FuncId) (args : Array Value) (hw : Region.wanted oi (yielded ops a.tmps) = true) (hN : oi.dst = N) (hrun : (execOp a.eval oi).run P w = .ok (.enter f args) w)
    (h : Calls P f args w fun e w' => ∃ v, e = .returned v ∧ K (a.put N v) w') : if Region.wanted oi (yielded ops a.tmps) = true then Oper.wp P oi a w K Q else K (a.put N undef) w := by
  rw [if_pos hw]
  subst hN
  unfold Oper.wp
  rw [hrun, Oper.upon_enter]
  refine h.mono fun e w'' hh => ?_
  obtain ⟨v, rfl, hk⟩ := hh
  exact hk
theorem enters_ {f : FuncId} {fn : Func} (hf : P.funcs[f]? = some fn) (hname : (fn.name == "runtime.NumGoroutine") = false) (hb : fn.body.isSome = true) (args : Array Value) (w : World) : (callFunc f args).run P w = .ok (.enter f args) w := by
  have h1 : fn.name ≠ "runtime.NumGoroutine" := by simpa using hname
  obtain ⟨c, hc⟩ := Option.isSome_iff_exists.1 hb
  simp [callFunc, hf, h1, hc]
theorem goes_ {oi : Oper} {N : Option Tmp} {a : Act} {w : World} {K : Act → World → Prop} {f : FuncId} {fn : Func} {asz : Array Operand} {ts : Array TypeId} (hf : P.funcs[f]? = some fn) (hname : (fn.name == "runtime.NumGoroutine") = false) (hb : fn.body.isSome = true) (args : Array Value)
    (hw : Region.wanted oi (yielded ops a.tmps) = true) (hN : oi.dst = N) (hop : oi.op = .call { callee := .value (.func f), args := asz, argTypes := ts }) (hargs : asz.map a.eval = args)
    (h : Calls P f args w fun e w' => ∃ v, e = .returned v ∧ K (a.put N v) w') : if Region.wanted oi (yielded ops a.tmps) = true then Oper.wp P oi a w K Q else K (a.put N undef) w := by
  refine call_ f args hw hN ?_ h
  have he := enters_ hf hname hb args w
  unfold execOp
  simp [hop, resolve, Deferred.ofValue, invoke, Act.eval, hargs, he]
theorem goesL_ {rest : List Oper} {oi : Oper} {a : Act} {w : World} (N : Option Tmp) (hd : oi.dst = N) (hg : oi.guard = none) {f : FuncId} {fn : Func} {asz : Array Operand} {ts : Array TypeId} (hf : P.funcs[f]? = some fn) (hname : (fn.name == "runtime.NumGoroutine") = false) (hb : fn.body.isSome = true) (args : Array Value)
    (hop : oi.op = .call { callee := .value (.func f), args := asz, argTypes := ts }) (hargs : asz.map a.eval = args)
    (h : Calls P f args w fun e w' => ∃ v, e = .returned v ∧ wpList P ops Q rest (a.put N v) w') : wpList P ops Q (oi :: rest) a w := by
  refine wpList_plain hg fun K hK => ?_
  have he := enters_ hf hname hb args w
  have hrun : (execOp a.eval oi).run P w = .ok (.enter f args) w := by
    unfold execOp
    simp [hop, resolve, Deferred.ofValue, invoke, Act.eval, hargs, he]
  unfold Oper.wp
  rw [hrun, Oper.upon_enter]
  refine h.mono fun e w'' hh => ?_
  obtain ⟨v, rfl, hk⟩ := hh
  subst hd
  exact hK _ _ hk
theorem i64_w (n : Int) : IntKind.i64.wrap n = Go.RowKit.wrap64 n := by unfold Go.RowKit.wrap64; exact IntKind.wrap_i64 n
theorem i32_w (n : Int) : IntKind.i32.wrap n = Go.RowKit.wrap32 n := by unfold Go.RowKit.wrap32; exact IntKind.wrap_i32 n
end
end Go.Proofs.YtdleomeiojlooaaW.PrintLast
end

section
namespace Go.Proofs.YtdleomeiojlooaaW.PrintWords
open Go.RowKit
namespace Kd
def tag {α : Type} (f : Nat → Nat) (d : Kd α) : Kd (α × Nat) where
  sz := d.sz
  E := d.E
  K := fun w x cs => d.K w x.1 cs
  M := fun w base ok x cs => d.M w base (fun k => ok k ∧ f k = x.2) x.1 cs
  K_len := fun h => d.K_len h
  K_one := fun h => d.K_one h
  K_below := fun hb h => d.K_below hb h
  K_of_M := fun h => d.K_of_M h
  M_mono := fun hok h => d.M_mono (fun k hk => ⟨hok k hk.1, hk.2⟩) h
  M_bound := fun h => d.M_mono (fun _ hk => ⟨⟨hk.1.1, hk.2⟩, hk.1.2⟩) (d.M_bound h)
  M_move := fun hm h => d.M_move (fun k hk => hm k hk.1) h
  M_lower := fun hb h => d.M_lower hb h
def raw (sz : Nat) : Kd (List Value) where
  sz := sz
  E := []
  K := fun _ x cs => cs = x ∧ cs.length = sz ∧ ∀ u ∈ cs, u.oneCell' = true
  M := fun _ _ _ x cs => cs = x ∧ cs.length = sz ∧ ∀ u ∈ cs, u.oneCell' = true
  K_len := fun h => h.2.1
  K_one := fun h => h.2.2
  K_below := fun _ h => h
  K_of_M := fun h => h
  M_mono := fun _ h => h
  M_bound := fun h => h
  M_move := fun _ h => h
  M_lower := fun _ h => h
def S {α : Type} (d : Kd α) (e : Nat) (w : World) (base : Nat) (ok : Nat → Prop) (v : Value) (xs : List α) : Prop := ∃ f, (tag f d).R e w base ok v xs.zipIdx
section
variable {α β : Type} {d : Kd α} {d' : Kd β} {e e' : Nat} {w w1 W : World} {base b : Nat} {ok ok' okv oku : Nat → Prop} {u v : Value} {xs : List α} {ys : List β}
theorem S_nil (d : Kd α) (e : Nat) (w : World) (base : Nat) (ok : Nat → Prop) : S d e w base ok (.slice none 0 0) [] := ⟨fun _ => 0, R_nil _ _ _ _ _⟩
end
def gap {α : Type} (f : Nat → Nat) (d : Kd α) (i : Nat) (c : List Value) : Kd (α × Nat) where
  sz := d.sz
  E := d.E
  K := fun w x cs => (x.2 = i → cs = c ∧ cs.length = d.sz ∧ ∀ u ∈ cs, u.oneCell' = true) ∧ (x.2 ≠ i → d.K w x.1 cs)
  M := fun w base ok x cs => (x.2 = i → cs = c ∧ cs.length = d.sz ∧ ∀ u ∈ cs, u.oneCell' = true) ∧ (x.2 ≠ i → d.M w base (fun k => ok k ∧ f k = x.2) x.1 cs)
  K_len := fun {w x cs} h => by
    by_cases hx : x.2 = i
    · exact (h.1 hx).2.1
    · exact d.K_len (h.2 hx)
  K_one := fun {w x cs} h => by
    by_cases hx : x.2 = i
    · exact (h.1 hx).2.2
    · exact d.K_one (h.2 hx)
  K_below := fun hb h => ⟨h.1, fun hx => d.K_below hb (h.2 hx)⟩
  K_of_M := fun h => ⟨h.1, fun hx => d.K_of_M (h.2 hx)⟩
  M_mono := fun hok h => ⟨h.1, fun hx => d.M_mono (fun k hk => ⟨hok k hk.1, hk.2⟩) (h.2 hx)⟩
  M_bound := fun h => ⟨h.1, fun hx => d.M_mono (fun _ hk => ⟨⟨hk.1.1, hk.2⟩, hk.1.2⟩) (d.M_bound (h.2 hx))⟩
  M_move := fun hm h => ⟨h.1, fun hx => d.M_move (fun k hk => hm k hk.1) (h.2 hx)⟩
  M_lower := fun hb h => ⟨h.1, fun hx => d.M_lower hb (h.2 hx)⟩
def H {α : Type} (d : Kd α) (e : Nat) (w : World) (base : Nat) (ok : Nat → Prop) (v : Value) (xs : List α) (i : Int) (oki : Nat → Prop) (c : List Value) : Prop :=
  (∀ k, oki k → ok k) ∧ ∃ f, (gap f d i.toNat c).R e w base (fun k => ok k ∧ ¬ oki k) v xs.zipIdx
end Kd
end Go.Proofs.YtdleomeiojlooaaW.PrintWords
end

section
namespace Go.Proofs.YtdleomeiojlooaaW.PrintWords
open Go.RowKit
namespace Kd
structure Heap {α : Type} (d : Kd α) : Prop where
  K : ∀ {w w1 : World} {x : α} {cs : List Value}, (∀ k, k < w.heap.size → w1.heap[k]? = w.heap[k]?) → d.K w x cs → d.K w1 x cs
theorem cell_heap {w w1 : World} (hb : ∀ k, k < w.heap.size → w1.heap[k]? = w.heap[k]?) {a : Addr} {v : Value} (h : w.cell? a = some v) : w1.cell? a = some v := by
  have := hb a.block (World.block_lt_of_cell? w a h)
  simpa [World.cell?, this] using h
theorem Heap.C {α : Type} {d : Kd α} (hd : Heap d) {w w1 : World} {A : Option Addr} {n : Nat} {xs : List α} (hb : ∀ k, k < w.heap.size → w1.heap[k]? = w.heap[k]?) (h : d.C w A n xs) : d.C w1 A n xs :=
  ⟨h.1, h.2.1, fun hn => by
    obtain ⟨ad, e, hc⟩ := h.2.2 hn
    refine ⟨ad, e, fun j p hj => ?_⟩
    obtain ⟨c, hs, hr, hcell⟩ := hc j p hj
    exact ⟨c, hs, hd.K hb hr, fun i u hu => cell_heap hb (hcell i u hu)⟩⟩
end Kd
end Go.Proofs.YtdleomeiojlooaaW.PrintWords
end

section
namespace Go.Proofs.YtdleomeiojlooaaW.PrintWords
open Go.RowKit
def Kept (w W : World) (S : Nat → Prop) : Prop := w.heap.size ≤ W.heap.size ∧ ∀ i, i < w.heap.size → ¬ S i → W.heap[i]? = w.heap[i]?
section
variable {w W W2 : World} {S S2 S' : Nat → Prop}
theorem Kept.refl (w : World) (S : Nat → Prop) : Kept w w S := ⟨Nat.le_refl _, fun _ _ _ => rfl⟩
theorem Kept.of_below (h : Below w.heap.size w W) (S : Nat → Prop) : Kept w W S := ⟨h.size, fun i hi _ => h.block i hi⟩
theorem Kept.mono (h : Kept w W S) (hs : ∀ k, S k → S' k) : Kept w W S' := ⟨h.1, fun i hi hn => h.2 i hi (fun hk => hn (hs i hk))⟩
theorem Kept.then_ (h : Kept w W S) (k : Kept W W2 S2) (hs : ∀ k, S2 k → S k ∨ w.heap.size ≤ k) : Kept w W2 S :=
  ⟨Nat.le_trans h.1 k.1, fun i hi hn => (k.2 i (Nat.lt_of_lt_of_le hi h.1) (fun h2 => (hs i h2).elim hn (fun h3 => by omega))).trans (h.2 i hi hn)⟩
theorem Kept.below (h : Kept w W S) (hb : Below W.heap.size W W2) : Kept w W2 S := h.then_ (Kept.of_below hb (fun _ => False)) (fun _ hk => hk.elim)
theorem Kept.alloc (h : Kept w W S) (o : Obj) : Kept w (W.alloc o) S := h.below (below_alloc (Below.refl _ _) o)
theorem Kept.drew (h : Kept w W S) : Kept w W.drew S := h
theorem Kept.drewN (h : Kept w W S) (m : Nat) : Kept w (W.drewN m) S := h
theorem Kept.setCell (h : Kept w W S) {p : Addr} (hp : S p.block ∨ w.heap.size ≤ p.block) (u : Value) : Kept w (W.setCell p u) S :=
  h.then_ (S2 := fun k => k = p.block) ⟨by simp [World.setCell], fun i _ hn => Below.heap_setCell W p u i hn⟩ (fun k hk => by rw [hk]; exact hp)
theorem Kept.keep {g : Nat} (h : KeepBut w W g none) (k : Kept W W2 S2) (hs : ∀ k, S2 k → w.heap.size ≤ k) : KeepBut w W2 g none :=
  ⟨Nat.le_trans h.1 k.1, fun i hi hg hr => (k.2 i (Nat.lt_of_lt_of_le hi h.1) (fun h2 => by have := hs i h2; omega)).trans (h.2 i hi hg hr)⟩
end
end Go.Proofs.YtdleomeiojlooaaW.PrintWords
end

section
namespace Go.Proofs.YtdleomeiojlooaaW.PrintWords
open Go.RowKit
def Foot (P : World → Prop) (W : World) (ok : Nat → Prop) : Prop := ∀ W' : World, (∀ k, ok k → k < W.heap.size → W'.heap[k]? = W.heap[k]?) → P W'
theorem heap_lt {W W1 : World} {k : Nat} (h : W1.heap[k]? = W.heap[k]?) (hlt : k < W.heap.size) : k < W1.heap.size := by
  rw [Array.getElem?_eq_getElem hlt] at h
  exact (Array.getElem?_eq_some_iff.1 h).1
namespace Foot
variable {P Q : World → Prop} {W W1 : World} {ok ok' : Nat → Prop}
theorem mono (h : Foot P W ok) (hok : ∀ k, ok k → ok' k) : Foot P W ok' := fun W' hW => h W' (fun k hk hlt => hW k (hok k hk) hlt)
theorem bound (h : Foot P W ok) : Foot P W (fun k => ok k ∧ k < W.heap.size) := fun W' hW => h W' (fun k hk hlt => hW k ⟨hk, hlt⟩ hlt)
theorem step (h : Foot P W ok) (hm : ∀ k, ok k → k < W.heap.size → W1.heap[k]? = W.heap[k]?) : Foot P W1 ok := fun W' hW => h W' (fun k hk hlt => (hW k hk (heap_lt (hm k hk hlt) hlt)).trans (hm k hk hlt))
theorem imp (h : Foot P W ok) (hi : ∀ W', P W' → Q W') : Foot Q W ok := fun W' hW => hi W' (h W' hW)
theorem old (h : Foot P W ok) (hb : Below W.heap.size W W1) : Foot P W1 (fun k => ok k ∧ k < W.heap.size) := (h.bound).step (fun k _ hlt => hb.block k hlt)
end Foot
namespace Kd
def F {α : Type} (d : Kd α) (W : World) (ok : Nat → Prop) (A : Option Addr) (n : Nat) (xs : List α) : Prop := Foot (fun W => d.C W A n xs) W ok
def FK {α : Type} (d : Kd α) (W : World) (ok : Nat → Prop) (x : α) (c : List Value) : Prop := Foot (fun W => d.K W x c) W ok
section
variable {α β : Type} {d : Kd α} {e base n n' cc g N : Nat} {ok ok' okp S : Nat → Prop} {w w0 w1 W W1 : World} {A A' : Option Addr} {u v v1 : Value} {xs : List α} {xs' : List β} {d' : Kd β} {x : α} {c : List Value}
theorem F_nil (d : Kd α) (W : World) (ok : Nat → Prop) : F d W ok none ([] : List α).length [] := fun W' _ => C_nil d W'
theorem FK_of_M (h : d.M W base ok x c) : FK d W ok x c := fun _ hW => d.K_of_M (M_step h hW)
end
end Kd
end Go.Proofs.YtdleomeiojlooaaW.PrintWords
end

section
namespace Go.Proofs.YtdleomeiojlooaaW.PrintWords
open Go.RowKit
namespace Kd
def chunks (sz : Nat) (n : Nat) (inner : List Value) : List (List Value) := (List.range n).map fun j => (inner.drop (j * sz)).take sz
theorem chunks_length (sz n : Nat) (inner : List Value) : (chunks sz n inner).length = n := by simp [chunks]
theorem chunks_at {sz n : Nat} {inner : List Value} {j : Nat} (hj : j < n) : (chunks sz n inner)[j]? = some ((inner.drop (j * sz)).take sz) := by simp [chunks, hj]
theorem chunks_get {sz n : Nat} {inner : List Value} {j : Nat} {c : List Value} (h : (chunks sz n inner)[j]? = some c) : c = (inner.drop (j * sz)).take sz := by
  have hj : j < n := by have := (List.getElem?_eq_some_iff.1 h).1; rwa [chunks_length] at this
  rw [chunks_at hj] at h
  injection h with h
  exact h.symm
theorem reps_raw {α : Type} {Rr : α → List Value → Prop} {sz : Nat} {xs : List α} {inner : List Value} (h : Reps Rr sz xs inner) (hR : ∀ x c, Rr x c → c.length = sz ∧ ∀ u ∈ c, u.oneCell' = true) : Reps (fun x cs => cs = x ∧ cs.length = sz ∧ ∀ u ∈ cs, u.oneCell' = true) sz (chunks sz xs.length inner) inner := by
  refine ⟨by rw [chunks_length]; exact h.1, fun j p hj => ?_⟩
  have hjl : j < xs.length := by have := (List.getElem?_eq_some_iff.1 hj).1; rwa [chunks_length] at this
  have hp := chunks_get hj
  exact ⟨hp.symm, hR _ _ (h.2 j _ (List.getElem?_eq_getElem hjl))⟩
section
variable {α : Type} {d : Kd α} {e base n cc g : Nat} {ok ok' okp S : Nat → Prop} {w w1 W W1 : World} {A : Option Addr} {u v v1 : Value} {xs : List α} {x : α} {c : List Value}
def N {α : Type} (d : Kd α) (e : Nat) (w : World) (base : Nat) (ok : Nat → Prop) (v : Value) (xs : List α) : Prop :=
  (∀ k, v.ownBlock = some k → ok k) ∧ ∃ rows : List (List Value), rows.length = xs.length ∧ (raw d.sz).R e w base (fun k => some k = v.ownBlock) v rows ∧ ∀ (j : Nat) (x : α) (c : List Value), xs[j]? = some x → rows[j]? = some c → FK d w (fun k => ok k ∧ some k ≠ v.ownBlock) x c
theorem R_N (h : d.R e w base ok v xs) : N d e w base ok v xs := by
  obtain ⟨h0, inner, ho, hr⟩ := h
  refine ⟨h0, chunks d.sz xs.length inner, chunks_length _ _ _, ⟨fun k hk => hk.symm, inner, by rw [chunks_length]; exact ho, reps_raw hr (fun x c hp => ⟨d.K_len (d.K_of_M hp), d.K_one (d.K_of_M hp)⟩)⟩, fun j x c hx hc => ?_⟩
  rw [chunks_get hc]
  exact FK_of_M (hr.2 j x hx)
theorem N_nil (d : Kd α) (e : Nat) (w : World) (base : Nat) (ok : Nat → Prop) : N d e w base ok (.slice none 0 0) [] := R_N (R_nil _ _ _ _ _)
end
end Kd
end Go.Proofs.YtdleomeiojlooaaW.PrintWords
end

section
namespace Go.Proofs.YtdleomeiojlooaaW.PrintWords
open Go.RowKit
section
variable {P : Program} {ops : Array Oper} {rest : List Oper} {o : Oper} {a : Act} {Q : Exit → Act → World → Prop} {W : World}
theorem gate_callee {f : FuncId} {asz : Array Operand} {ts : Array TypeId} (_ho : o.op = .call { callee := .value (.func f), args := asz, argTypes := ts }) (h : wpList P ops Q (o :: rest) a W) : wpList P ops Q (o :: rest) a W := h
theorem gate_builtin {b : Builtin} {xs : Array Operand} {ts : Array TypeId} (_ho : o.op = .call { callee := .builtin b, args := xs, argTypes := ts }) (h : wpList P ops Q (o :: rest) a W) : wpList P ops Q (o :: rest) a W := h
end
def mx (a b : Int) : Int := if a < b then b else a
def shl (k : IntKind) (x y : Int) : Int := k.wrap (x * 2 ^ min y.toNat k.bits)
def shr (k : IntKind) (x y : Int) : Int := x / 2 ^ min y.toNat k.bits
theorem shl_small {k : IntKind} {x y j : Int} (h : shl k x y = j) (hy : y ≤ k.bits) : k.wrap (x * 2 ^ y.toNat) = j := by rw [← h]; unfold shl; rw [Nat.min_eq_left (by omega)]
theorem shr_small {k : IntKind} {x y j : Int} (h : shr k x y = j) (hy : y ≤ k.bits) : x / 2 ^ y.toNat = j := by rw [← h]; unfold shr; rw [Nat.min_eq_left (by omega)]
theorem drewN_self (w : World) (n : Nat) : w.drewN n = w.drewN n := rfl
end Go.Proofs.YtdleomeiojlooaaW.PrintWords
namespace Go.Proofs.YtdleomeiojlooaaW.PrintWords
open Go.RowKit
namespace Kd
def V {α : Type} (d : Kd α) (_e : Nat) (W : World) (_base : Nat) (ok : Nat → Prop) (v : Value) (xs : List α) : Prop := ∃ A c, v = .slice A xs.length c ∧ xs.length ≤ c ∧ F d W ok A xs.length xs
section
variable {α β : Type} {d : Kd α} {e base base' n m c g N' lo hi : Nat} {ok ok' S : Nat → Prop} {w W w1 : World} {A : Option Addr} {ad : Addr} {u v v1 : Value} {xs : List α}
theorem V_nil (d : Kd α) (e : Nat) (W : World) (base : Nat) (ok : Nat → Prop) : V d e W base ok (.slice none 0 0) [] := ⟨none, 0, rfl, Nat.le_refl _, F_nil d W ok⟩
end
end Kd
end Go.Proofs.YtdleomeiojlooaaW.PrintWords
end

section
namespace Go.Proofs.YtdleomeiojlooaaW.PrintLast
open Go.Proofs.YtdleomeiojlooaaW.PrintWords (Aside0)
def needsOf (md : Region.Mode) (o : Oper) : List Nat := (o.after.toList.filter (fun e => Region.binds md e)).map (fun e => e.on)
def clashOf (md : Region.Mode) (ops : Array Oper) (i : Nat) (oi : Oper) : List Nat := (List.range ops.size).filter fun j => !(j == i) && match ops[j]? with
  | some oj => !(oj.after.any (fun e => Region.binds md e && e.on == i) || oi.apart ops oj)
  | none => false
def rtab (md : Region.Mode) (ops : Array Oper) : Bool × List (List Nat × List Nat) := (Region.noSelect ops, (List.range ops.size).map fun i => match ops[i]? with
  | some o => (needsOf md o, clashOf md ops i o)
  | none => ([], []))
def readyAt (T : List (List Nat × List Nat)) (l : List Bool) (i : Nat) : Bool := !l.getD i true && match T[i]? with
  | some r => r.1.all (fun j => l.getD j false)
  | none => false
def readyT (T : List (List Nat × List Nat)) (l : List Bool) : List Nat := (List.range T.length).filter (readyAt T l)
section
variable {md : Region.Mode} {ops : Array Oper} {T : Bool × List (List Nat × List Nat)} {l l' li lj lk : Array Bool} {ds : List Nat} {i j k : Nat}
theorem gd (l : Array Bool) (j : Nat) (b : Bool) : l.getD j b = l.toList.getD j b := by simp [Array.getD_eq_getD_getElem?, List.getD_eq_getElem?_getD]
theorem needs_all (o : Oper) (p : Nat → Bool) : o.after.all (fun e => !Region.binds md e || p e.on) = (needsOf md o).all p := by
  unfold needsOf
  rw [← Array.all_toList]
  induction o.after.toList with
  | nil => rfl
  | cons e r ih =>
    rw [List.all_cons, ih, List.filter_cons]
    cases h : Region.binds md e <;> simp
theorem rtab_length : (rtab md ops).2.length = ops.size := by simp [rtab]
theorem rtab_some {o : Oper} (h : ops[i]? = some o) : (rtab md ops).2[i]? = some (needsOf md o, clashOf md ops i o) := by
  have hi := (Array.getElem?_eq_some_iff.1 h).1
  unfold rtab
  rw [List.getElem?_map, List.getElem?_range hi, Option.map_some, h]
theorem rtab_none (h : ops[i]? = none) : (rtab md ops).2[i]? = none := by
  have hi : ops.size ≤ i := Array.getElem?_eq_none_iff.1 h
  exact List.getElem?_eq_none (by rw [rtab_length]; exact hi)
theorem readyAt_eq : readyAt (rtab md ops).2 l.toList i = (!l.getD i true && ((ops[i]?).map (·.after.all fun e => !Region.binds md e || l.getD e.on false)).getD false) := by
  unfold readyAt
  rw [gd]
  cases h : ops[i]? with
  | none => rw [rtab_none h]; rfl
  | some o =>
    rw [rtab_some h]
    simp only [Option.map_some, Option.getD_some]
    rw [← needs_all]
    simp only [gd]
theorem ready_eq : Region.ready md ops l = readyT (rtab md ops).2 l.toList := by
  unfold Region.ready readyT
  rw [rtab_length]
  refine List.filter_congr (fun i _ => ?_)
  rw [readyAt_eq]
def upM (B : List Nat) (d : Nat) : List Nat → Nat
  | [] => 0
  | n :: r => (2 ^ n ||| (if n < d then B.getD n 0 else 0)) ||| upM B d r
def waitsOk (T : List (List Nat × List Nat)) (B : List Nat) : Bool := (List.range T.length).all fun d => match T[d]? with
  | some r => (B.getD d 0 ||| upM B d r.1) == upM B d r.1
  | none => false
theorem upM_bit {B : List Nat} {d i : Nat} : ∀ {ns : List Nat}, (upM B d ns).testBit i = true → ∃ n ∈ ns, n = i ∨ (n < d ∧ (B.getD n 0).testBit i = true)
  | [], h => by simp [upM] at h
  | n :: r, h => by
    unfold upM at h
    rw [Nat.testBit_or, Nat.testBit_or, Bool.or_eq_true, Bool.or_eq_true] at h
    rcases h with (h | h) | h
    · rw [Nat.testBit_two_pow] at h
      exact ⟨n, List.mem_cons_self, .inl (by simpa using h)⟩
    · by_cases hn : n < d
      · rw [if_pos hn] at h
        exact ⟨n, List.mem_cons_self, .inr ⟨hn, h⟩⟩
      · rw [if_neg hn] at h
        simp at h
    · obtain ⟨m, hm, h2⟩ := upM_bit h
      exact ⟨m, List.mem_cons_of_mem _ hm, h2⟩
end
def opsIn : Code → Nat → Option (Array Oper)
  | .region id ops _, k => if id == k then some ops else none
  | .seq a b, k => match opsIn a k with
    | some o => some o
    | none => opsIn b k
  | .cond _ a b, k => match opsIn a k with
    | some o => some o
    | none => opsIn b k
  | .block _ c, k => opsIn c k
  | .loop c, k => opsIn c k
  | .scope c, k => opsIn c k
  | .rangeFunc _ _ a b, k => match opsIn a k with
    | some o => some o
    | none => opsIn b k
  | _, _ => none
def opsOf (f : Func) (k : Nat) : Array Oper := ((f.body.bind fun c => opsIn c k)).getD #[]
end Go.Proofs.YtdleomeiojlooaaW.PrintLast
end

section
namespace Go.Proofs.YtdleomeiojlooaaW.PrintWords
theorem Reps.one {α : Type} {R : α → List Value → Prop} {ps : List α} {cs : List Value} {p : α} {v : Value} (hp : R p [v]) (h : Reps R 1 ps cs) : Reps R 1 (p :: ps) (v :: cs) := by
  refine ⟨by simp [h.1], fun j q hq => ?_⟩
  cases j with
  | zero =>
    simp only [List.getElem?_cons_zero, Option.some.injEq] at hq
    subst hq
    simpa using hp
  | succ j =>
    simp only [List.getElem?_cons_succ] at hq
    have h1 := h.2 j q hq
    simpa [Nat.mul_one] using h1
theorem Reps.front {α : Type} {R : α → List Value → Prop} {size : Nat} {ps : List α} {cs c all : List Value} {p : α} (hp : R p c) (hc : c.length = size) (h : Reps R size ps cs) (ha : c ++ cs = all) : Reps R size (p :: ps) all := by
  subst ha
  refine ⟨by rw [List.length_append, hc, h.1, List.length_cons, Nat.succ_mul, Nat.add_comm], fun j q hq => ?_⟩
  cases j with
  | zero =>
    simp only [List.getElem?_cons_zero, Option.some.injEq] at hq
    subst hq
    rw [Nat.zero_mul, List.drop_zero, List.take_append_of_le_length (by omega), List.take_of_length_le (by omega)]
    exact hp
  | succ j =>
    simp only [List.getElem?_cons_succ] at hq
    have h1 := h.2 j q hq
    rw [Nat.succ_mul, List.drop_append, List.drop_of_length_le (by rw [hc]; exact Nat.le_add_left _ _), List.nil_append, hc, Nat.add_sub_cancel]
    exact h1
theorem Reps.c2 {α : Type} {R : α → List Value → Prop} {ps : List α} {cs : List Value} {p : α} {va vb : Value} (hp : R p [va, vb]) (h : Reps R 2 ps cs) : Reps R 2 (p :: ps) (va :: vb :: cs) := Reps.front hp rfl h rfl
theorem Reps.c3 {α : Type} {R : α → List Value → Prop} {ps : List α} {cs : List Value} {p : α} {va vb vc : Value} (hp : R p [va, vb, vc]) (h : Reps R 3 ps cs) : Reps R 3 (p :: ps) (va :: vb :: vc :: cs) := Reps.front hp rfl h rfl
theorem Reps.c4 {α : Type} {R : α → List Value → Prop} {ps : List α} {cs : List Value} {p : α} {va vb vc vd : Value} (hp : R p [va, vb, vc, vd]) (h : Reps R 4 ps cs) : Reps R 4 (p :: ps) (va :: vb :: vc :: vd :: cs) := Reps.front hp rfl h rfl
theorem Reps.c5 {α : Type} {R : α → List Value → Prop} {ps : List α} {cs : List Value} {p : α} {va vb vc vd ve : Value} (hp : R p [va, vb, vc, vd, ve]) (h : Reps R 5 ps cs) : Reps R 5 (p :: ps) (va :: vb :: vc :: vd :: ve :: cs) := Reps.front hp rfl h rfl
theorem Reps.c6 {α : Type} {R : α → List Value → Prop} {ps : List α} {cs : List Value} {p : α} {va vb vc vd ve vf : Value} (hp : R p [va, vb, vc, vd, ve, vf]) (h : Reps R 6 ps cs) : Reps R 6 (p :: ps) (va :: vb :: vc :: vd :: ve :: vf :: cs) := Reps.front hp rfl h rfl
theorem Reps.c7 {α : Type} {R : α → List Value → Prop} {ps : List α} {cs : List Value} {p : α} {va vb vc vd ve vf vg : Value} (hp : R p [va, vb, vc, vd, ve, vf, vg]) (h : Reps R 7 ps cs) : Reps R 7 (p :: ps) (va :: vb :: vc :: vd :: ve :: vf :: vg :: cs) := Reps.front hp rfl h rfl
theorem Reps.c8 {α : Type} {R : α → List Value → Prop} {ps : List α} {cs : List Value} {p : α} {va vb vc vd ve vf vg vh : Value} (hp : R p [va, vb, vc, vd, ve, vf, vg, vh]) (h : Reps R 8 ps cs) : Reps R 8 (p :: ps) (va :: vb :: vc :: vd :: ve :: vf :: vg :: vh :: cs) := Reps.front hp rfl h rfl
theorem Reps.c9 {α : Type} {R : α → List Value → Prop} {ps : List α} {cs : List Value} {p : α} {va vb vc vd ve vf vg vh vi : Value} (hp : R p [va, vb, vc, vd, ve, vf, vg, vh, vi]) (h : Reps R 9 ps cs) : Reps R 9 (p :: ps) (va :: vb :: vc :: vd :: ve :: vf :: vg :: vh :: vi :: cs) := Reps.front hp rfl h rfl
theorem Reps.c10 {α : Type} {R : α → List Value → Prop} {ps : List α} {cs : List Value} {p : α} {va vb vc vd ve vf vg vh vi vj : Value} (hp : R p [va, vb, vc, vd, ve, vf, vg, vh, vi, vj]) (h : Reps R 10 ps cs) : Reps R 10 (p :: ps) (va :: vb :: vc :: vd :: ve :: vf :: vg :: vh :: vi :: vj :: cs) := Reps.front hp rfl h rfl
end Go.Proofs.YtdleomeiojlooaaW.PrintWords
end

section
namespace Go.Proofs.Ytdleomeiojlooaa.P
set_option linter.unusedVariables false
set_option linter.unusedSimpArgs false
open Go.RowKit Go.ChangeShapes Go.WideShapes Go.Proofs.YtdleomeiojlooaaW.PrintWords Go.Proofs.YtdleomeiojlooaaW.PrintLast Go.Proofs.YtdleomeiojlooaaW.PrintMore
@[local go_sem] theorem setCell_drewN (w : World) (n : Nat) (a : Addr) (v : Value) : (w.drewN n).setCell a v = (w.setCell a v).drewN n := rfl
def putA : Array Value → Nat → List Value → Array Value
  | cs, _, [] => cs
  | cs, o, v :: r => putA (cs.setIfInBounds o v) (o + 1) r
theorem setCells_row {g : Nat} {t : TypeId} : ∀ (vs : List Value) (o : Nat) (w : World) (cs : Array Value), w.heap[g]? = some (.cells cs t (0, 0)) → (w.setCells g o vs).heap[g]? = some (.cells (putA cs o vs) t (0, 0))
  | [], _, _, _, h => h
  | v :: r, o, w, cs, h => setCells_row r (o + 1) _ _ (heap_setCell_same w g o cs t v h)
theorem putA_size : ∀ (vs : List Value) (o : Nat) (cs : Array Value), (putA cs o vs).size = cs.size
  | [], _, _ => rfl
  | v :: r, o, cs => by rw [putA, putA_size r]; simp
theorem putA_get : ∀ (vs : List Value) (o : Nat) (cs : Array Value) (j : Nat), o + vs.length ≤ cs.size → (putA cs o vs)[j]? = if o ≤ j ∧ j < o + vs.length then vs[j - o]? else cs[j]?
  | [], o, cs, j, h => by
    have : ¬ (o ≤ j ∧ j < o + ([] : List Value).length) := by simp only [List.length_nil]; omega
    rw [if_neg this]; rfl
  | v :: r, o, cs, j, h => by
    simp only [List.length_cons] at h
    rw [putA, putA_get r (o + 1) _ j (by simp; omega)]
    simp only [List.length_cons]
    by_cases h1 : j = o
    · subst h1
      rw [if_neg (by omega), if_pos (by omega)]
      simp only [Nat.sub_self, List.getElem?_cons_zero]
      rw [Array.getElem?_setIfInBounds_self_of_lt (by omega)]
    · rw [Array.getElem?_setIfInBounds_ne (by omega)]
      by_cases h2 : o ≤ j ∧ j < o + (r.length + 1)
      · rw [if_pos (by omega), if_pos h2]
        have e : j - o = (j - (o + 1)) + 1 := by omega
        rw [e, List.getElem?_cons_succ]
      · rw [if_neg (by omega), if_neg h2]
theorem putA_full (vs : List Value) (cs : Array Value) (h : vs.length = cs.size) : putA cs 0 vs = vs.toArray := by
  apply Array.ext_getElem?
  intro j
  rw [putA_get vs 0 cs j (by omega)]
  simp only [Nat.zero_le, true_and, Nat.zero_add, Nat.sub_zero, List.getElem?_toArray]
  by_cases hj : j < vs.length
  · rw [if_pos hj]
  · rw [if_neg hj, Array.getElem?_eq_none (by omega), List.getElem?_eq_none (by omega)]
theorem row_set_all {w : World} {g : Nat} {t : TypeId} {cs vs : Array Value} (hg : w.heap[g]? = some (.cells cs t (0, 0))) (hs : vs.size = cs.size) : (w.setCells g 0 vs.toList).heap[g]? = some (.cells vs t (0, 0)) := by
  have h := setCells_row vs.toList 0 w cs hg
  rw [putA_full _ _ (by simpa using hs)] at h
  simpa using h
theorem bel_setCells {B g : Nat} {w : World} (hg : B ≤ g) : ∀ (vs : List Value) (o : Nat) (W : World), Below B w W → Below B w (W.setCells g o vs)
  | [], _, _, h => h
  | v :: r, o, W, h => bel_setCells hg r (o + 1) _ (h.setCell hg v)
theorem setCells_size (g : Nat) : ∀ (vs : List Value) (o : Nat) (W : World), (W.setCells g o vs).heap.size = W.heap.size
  | [], _, _ => rfl
  | v :: r, o, W => by rw [World.setCells, setCells_size g r]; simp [World.setCell]
theorem setCells_other {g k : Nat} (h : k ≠ g) : ∀ (vs : List Value) (o : Nat) (W : World), (W.setCells g o vs).heap[k]? = W.heap[k]?
  | [], _, _ => rfl
  | v :: r, o, W => by rw [World.setCells, setCells_other h r]; exact heap_setCell_other _ _ _ _ h
inductive SC where
  | i (k : IntKind) (n : Int)
  | b (b : Bool)
  | s (s : ByteArray)
  | p (a : Option Addr)
  | sl (a : Option Addr) (len cap : Nat)
def SC.v : SC → Value
  | .i k n => .int k n
  | .b x => .bool x
  | .s x => .string x
  | .p x => .pointer x
  | .sl a n c => .slice a n c
abbrev CK : Type := Unit
abbrev mkc (k : CK) (x : SC) : Value := x.v
theorem mkc_one (k : CK) (x : SC) : (mkc k x).oneCell' = true := by cases x <;> rfl
def FR (k : CK) (n : Nat) (f : Nat → SC) : Array Value := ((List.range n).map fun i => mkc k (f i)).toArray
theorem FR_size (k : CK) (n : Nat) (f : Nat → SC) : (FR k n f).size = n := by simp [FR]
theorem FR_at (k : CK) (n : Nat) (f : Nat → SC) (i : Nat) (h : i < n) : (FR k n f)[i]? = some (mkc k (f i)) := by simp [FR, h]
theorem FR_out (k : CK) (n : Nat) (f : Nat → SC) (i : Nat) (h : ¬ i < n) : (FR k n f)[i]? = none := by
  apply Array.getElem?_eq_none; rw [FR_size]; omega
def upd (f : Nat → SC) (i : Nat) (x : SC) : Nat → SC := fun j => if j = i then x else f j
theorem upd_same (f : Nat → SC) (i : Nat) (x : SC) : upd f i x i = x := if_pos rfl
theorem upd_other (f : Nat → SC) (i j : Nat) (x : SC) (h : j ≠ i) : upd f i x j = f j := if_neg h
theorem FR_congr (k : CK) (n : Nat) (f f' : Nat → SC) (h : ∀ i, i < n → f i = f' i) : FR k n f = FR k n f' := by
  unfold FR
  congr 1
  apply List.map_congr_left
  intro i hi
  rw [h i (List.mem_range.1 hi)]
theorem FR_set (k : CK) (n : Nat) (f : Nat → SC) (i : Nat) (x : SC) (h : i < n) : (FR k n f).setIfInBounds i (mkc k x) = FR k n (upd f i x) := by
  apply Array.ext_getElem?
  intro j
  by_cases hj : j = i
  · subst hj
    rw [Array.getElem?_setIfInBounds_self_of_lt (by rw [FR_size]; exact h), FR_at _ _ _ _ h, upd_same]
  · rw [Array.getElem?_setIfInBounds_ne (fun e => hj e.symm)]
    by_cases hn : j < n
    · rw [FR_at _ _ _ _ hn, FR_at _ _ _ _ hn, upd_other _ _ _ _ hj]
    · rw [FR_out _ _ _ _ hn, FR_out _ _ _ _ hn]
def Row (w : World) (g : Nat) (k : CK) (n : Nat) (f : Nat → SC) (t : TypeId) : Prop := w.heap[g]? = some (.cells (FR k n f) t (0, 0))
theorem Row.cell {w : World} {g : Nat} {k : CK} {n : Nat} {f : Nat → SC} {t : TypeId} (h : Row w g k n f t) (i : Nat) (hi : i < n) : w.cell? ⟨g, i, none⟩ = some (mkc k (f i)) := by
  rw [cell_of_row w g i _ t _ h, FR_at _ _ _ _ hi]
theorem Row.fro {w : World} {g : Nat} {k : CK} {n : Nat} {f : Nat → SC} {t : TypeId} (h : Row w g k n f t) (i : Nat) : w.frozen? ⟨g, i, none⟩ = false := frozen_of_row w g i _ t h
theorem Row.set {w : World} {g : Nat} {k : CK} {n : Nat} {f : Nat → SC} {t : TypeId} (h : Row w g k n f t) (i : Nat) (x : SC) (hi : i < n) : Row (w.setCell ⟨g, i, none⟩ (mkc k x)) g k n (upd f i x) t := by
  have := heap_setCell_same w g i _ t (mkc k x) h
  rwa [FR_set _ _ _ _ _ hi] at this
theorem Row.other {w : World} {g : Nat} {k : CK} {n : Nat} {f : Nat → SC} {t : TypeId} (h : Row w g k n f t) (a : Addr) (v : Value) (ha : g ≠ a.block) : Row (w.setCell a v) g k n f t :=
  (heap_setCell_other w a g v ha).trans h
theorem Row.lt {w : World} {g : Nat} {k : CK} {n : Nat} {f : Nat → SC} {t : TypeId} (h : Row w g k n f t) : g < w.heap.size := (Array.getElem?_eq_some_iff.1 h).1
theorem Row.alloc {w : World} {g : Nat} {k : CK} {n : Nat} {f : Nat → SC} {t : TypeId} (h : Row w g k n f t) (o : Obj) : Row (w.alloc o) g k n f t := by
  have hlt := h.lt
  have e : (w.alloc o).heap[g]? = w.heap[g]? := Below.heap_alloc w o g hlt
  exact e.trans h
theorem Row.new (w : World) (k : CK) (n : Nat) (f : Nat → SC) (t : TypeId) : Row (w.alloc (.cells (FR k n f) t)) w.heap.size k n f t := heap_alloc_new w _
theorem Row.below {w w' : World} {B g : Nat} {k : CK} {n : Nat} {f : Nat → SC} {t : TypeId} (h : Row w g k n f t) (hb : Below B w w') (hg : g < B) : Row w' g k n f t := (hb.block g hg).trans h
theorem Row.drewN {w : World} {g : Nat} {k : CK} {n : Nat} {f : Nat → SC} {t : TypeId} (h : Row w g k n f t) (m : Nat) : Row (w.drewN m) g k n f t := h
theorem Row.all {w : World} {g : Nat} {k : CK} {n : Nat} {f f' : Nat → SC} {t : TypeId} (h : Row w g k n f t) : Row (w.setCells g 0 (FR k n f').toList) g k n f' t := row_set_all h (by rw [FR_size, FR_size])
structure Stored (w w' : World) (g : Nat) : Prop where
  other : ∀ k, k ≠ g → w'.heap[k]? = w.heap[k]?
  size : w'.heap.size = w.heap.size
  bel : ∀ B W, B ≤ g → Below B W w → Below B W w'
theorem Row.stored {w w' : World} {g g' : Nat} {k : CK} {n : Nat} {f : Nat → SC} {t : TypeId} (h : Row w g k n f t) (hs : Stored w w' g') (hg : g ≠ g') : Row w' g k n f t := (hs.other g hg).trans h
theorem w64 (n : Int) (h : -9223372036854775808 ≤ n ∧ n ≤ 9223372036854775807) : wrap64 n = n := by unfold wrap64; omega
end Go.Proofs.Ytdleomeiojlooaa.P
end

section
namespace Go.Proofs.YtdleomeiojlooaaW.PrintLast
def up (b : Nat → Bool) (i : Nat) : Nat → Bool := fun j => if j = i then true else b j
theorem up_self (b : Nat → Bool) (i : Nat) : up b i i = true := by simp [up]
theorem up_ne {b : Nat → Bool} {i j : Nat} (h : j ≠ i) : up b i j = b j := by simp [up, h]
def lof (n : Nat) (O : List Nat) (b : Nat → Bool) : List Bool := (List.range n).map fun j => if O.contains j then b j else true
def putSel (a : Act) (b : Nat → Bool) : List (Nat × Tmp × Value) → Act
  | [] => a
  | e :: r => putSel (if b e.1 = true then a.put (some e.2.1) e.2.2 else a) b r
section
variable {P : Program} {ops : Array Oper} {Q : Exit → Act → World → Prop} {md : Region.Mode} {T : Bool × List (List Nat × List Nat)} {B : List Nat} {O : List Nat} {b : Nat → Bool} {i j n : Nat}
theorem lof_length : (lof n O b).length = n := by simp [lof]
theorem lof_get {d : Bool} (hj : j < n) : (lof n O b).getD j d = if O.contains j then b j else true := by
  simp [lof, List.getD_eq_getElem?_getD, hj]
theorem lof_up (hi : O.contains i = true) : (lof n O b).set i true = lof n O (up b i) := by
  apply List.ext_getElem?
  intro j
  by_cases hj : j < n
  · by_cases hij : i = j
    · subst hij
      have hl : i < (lof n O b).length := by rw [lof_length]; exact hj
      rw [List.getElem?_set_self hl]
      simp only [lof, List.getElem?_map, List.getElem?_range hj, Option.map_some, hi, if_true, up_self]
    · rw [List.getElem?_set_ne hij]
      simp only [lof, List.getElem?_map, List.getElem?_range hj, Option.map_some]
      rw [up_ne (Ne.symm hij)]
  · rw [List.getElem?_eq_none (by simp [lof]; omega), List.getElem?_eq_none (by simp [lof]; omega)]
def StepAt (P : Program) (ops : Array Oper) (Q : Exit → Act → World → Prop) (B : List Nat) (O : List Nat) (I : (Nat → Bool) → Act → World → Prop) (i : Nat) : Prop :=
  ∀ b a w, I b a w → b i = false → (∀ j, (O.contains j && (B.getD i 0).testBit j) = true → b j = true) → (∀ d, (O.contains d && (B.getD d 0).testBit i) = true → b d = false) →
    ∃ oi, ops[i]? = some oi ∧ ∀ K : Act → World → Prop, Shut (∀ a' w', I (up b i) a' w' → K a' w') → if Region.wanted oi (yielded ops a.tmps) = true then Oper.wp P oi a w K Q else K (a.put oi.dst undef) w
theorem steps_nil {I : (Nat → Bool) → Act → World → Prop} : ∀ i ∈ ([] : List Nat), StepAt P ops Q B O I i := fun _ h => by cases h
theorem steps_cons {I : (Nat → Bool) → Act → World → Prop} {rs : List Nat} (h : StepAt P ops Q B O I i) (hs : ∀ j ∈ rs, StepAt P ops Q B O I j) : ∀ j ∈ i :: rs, StepAt P ops Q B O I j := fun j hj => by
  rcases List.mem_cons.1 hj with rfl | hj
  · exact h
  · exact hs j hj
def baseOk (T : List (List Nat × List Nat)) (O : List Nat) : Bool :=
  (List.range T.length).all (fun d => match T[d]? with
    | some r => (O.contains d || r.1.all fun n => !O.contains n) && r.1.all fun n => decide (n < d)
    | none => false) && O.all (fun i => decide (i < T.length)) && decide O.Nodup
theorem baseOk_row {T : List (List Nat × List Nat)} (h : baseOk T O = true) {d : Nat} {r : List Nat × List Nat} (hr : T[d]? = some r) : (O.contains d = false → ∀ n ∈ r.1, O.contains n = false) ∧ ∀ n ∈ r.1, n < d := by
  simp only [baseOk, Bool.and_eq_true] at h
  have h1 := List.all_eq_true.1 h.1.1 d (List.mem_range.2 (List.getElem?_eq_some_iff.1 hr).1)
  rw [hr] at h1
  simp only [Bool.and_eq_true, Bool.or_eq_true, List.all_eq_true, decide_eq_true_eq] at h1
  refine ⟨fun hd n hn => ?_, h1.2⟩
  rcases h1.1 with h2 | h2
  · rw [hd] at h2; cases h2
  · simpa using h2 n hn
theorem baseOk_lt {T : List (List Nat × List Nat)} (h : baseOk T O = true) {i : Nat} (hi : i ∈ O) : i < T.length := by
  simp only [baseOk, Bool.and_eq_true] at h
  simpa using List.all_eq_true.1 h.1.2 i hi
theorem baseOk_nodup {T : List (List Nat × List Nat)} (h : baseOk T O = true) : O.Nodup := by
  simp only [baseOk, Bool.and_eq_true] at h
  exact of_decide_eq_true h.2
def Closed (T : List (List Nat × List Nat)) (O : List Nat) (b : Nat → Bool) : Prop := ∀ d r, T[d]? = some r → O.contains d = true → b d = true → ∀ n ∈ r.1, O.contains n = true → b n = true
theorem bits_out {T : List (List Nat × List Nat)} (hw : waitsOk T B = true) (hk : baseOk T O = true) : ∀ (m d : Nat), d ≤ m → d < T.length → O.contains d = false → ∀ j, (B.getD d 0).testBit j = true → O.contains j = false := by
  intro m
  induction m with
  | zero =>
    intro d hd hl hO j hj
    have hd0 : d = 0 := by omega
    subst hd0
    have hr : T[0]? = some T[0] := List.getElem?_eq_getElem hl
    have h1 := List.all_eq_true.1 hw 0 (List.mem_range.2 hl)
    rw [hr] at h1
    simp only [beq_iff_eq] at h1
    have h2 : (upM B 0 T[0].1).testBit j = true := by rw [← h1, Nat.testBit_or, hj, Bool.true_or]
    obtain ⟨n, hn, h3⟩ := upM_bit h2
    have := (baseOk_row hk hr).2 n hn
    omega
  | succ m ih =>
    intro d hd hl hO j hj
    have hr : T[d]? = some T[d] := List.getElem?_eq_getElem hl
    have h1 := List.all_eq_true.1 hw d (List.mem_range.2 hl)
    rw [hr] at h1
    simp only [beq_iff_eq] at h1
    have h2 : (upM B d T[d].1).testBit j = true := by rw [← h1, Nat.testBit_or, hj, Bool.true_or]
    obtain ⟨n, hn, h3⟩ := upM_bit h2
    have hO2 := (baseOk_row hk hr).1 hO n hn
    rcases h3 with rfl | ⟨h4, h5⟩
    · exact hO2
    · exact ih n (by omega) (by omega) hO2 j h5
theorem closed_bits {T : List (List Nat × List Nat)} (hw : waitsOk T B = true) (hk : baseOk T O = true) (hc : Closed T O b) : ∀ (m d : Nat), d ≤ m → d < T.length → O.contains d = true → b d = true → ∀ j, O.contains j = true → (B.getD d 0).testBit j = true → b j = true := by
  intro m
  induction m with
  | zero =>
    intro d hd hl hO hb j hjO hj
    have hd0 : d = 0 := by omega
    subst hd0
    have hr : T[0]? = some T[0] := List.getElem?_eq_getElem hl
    have h1 := List.all_eq_true.1 hw 0 (List.mem_range.2 hl)
    rw [hr] at h1
    simp only [beq_iff_eq] at h1
    have h2 : (upM B 0 T[0].1).testBit j = true := by rw [← h1, Nat.testBit_or, hj, Bool.true_or]
    obtain ⟨n, hn, h3⟩ := upM_bit h2
    have := (baseOk_row hk hr).2 n hn
    omega
  | succ m ih =>
    intro d hd hl hO hb j hjO hj
    have hr : T[d]? = some T[d] := List.getElem?_eq_getElem hl
    have h1 := List.all_eq_true.1 hw d (List.mem_range.2 hl)
    rw [hr] at h1
    simp only [beq_iff_eq] at h1
    have h2 : (upM B d T[d].1).testBit j = true := by rw [← h1, Nat.testBit_or, hj, Bool.true_or]
    obtain ⟨n, hn, h3⟩ := upM_bit h2
    rcases h3 with rfl | ⟨h4, h5⟩
    · exact hc d _ hr hO hb n hn hjO
    · cases hO2 : O.contains n with
      | true => exact ih n (by omega) (by omega) hO2 (hc d _ hr hO hb n hn hO2) j hjO h5
      | false =>
        have := bits_out hw hk n n (Nat.le_refl _) (by omega) hO2 j h5
        rw [hjO] at this
        cases this
theorem up_count : ∀ {O : List Nat}, O.Nodup → i ∈ O → b i = false → (O.filter fun j => !up b i j).length + 1 = (O.filter fun j => !b j).length
  | [], _, hi, _ => by cases hi
  | x :: r, hn, hi, hb => by
    rw [List.nodup_cons] at hn
    rcases List.mem_cons.1 hi with rfl | hi
    · have h1 : (r.filter fun j => !up b i j) = r.filter fun j => !b j := by
        refine List.filter_congr (fun j hj => ?_)
        rw [up_ne (fun e => hn.1 (by rw [← e]; exact hj))]
      rw [List.filter_cons, List.filter_cons]
      simp [up_self, hb, h1]
    · have hxi : x ≠ i := fun e => hn.1 (e ▸ hi)
      have h1 := up_count hn.2 hi hb
      rw [List.filter_cons, List.filter_cons, up_ne hxi]
      cases hbx : b x
      · simp only [Bool.not_false, if_true, List.length_cons]
        omega
      · simpa using h1
theorem inv_all (hT : rtab md ops = T) (hw : waitsOk T.2 B = true) (hk : baseOk T.2 O = true) (I : (Nat → Bool) → Act → World → Prop) (hs : ∀ i ∈ O, StepAt P ops Q B O I i)
    (hend : ∀ b a w, (∀ j, O.contains j = true → b j = true) → I b a w → Q .normal a w) :
    ∀ (m : Nat) (b : Nat → Bool) (a : Act) (w : World), (O.filter fun j => !b j).length = m → Closed T.2 O b → I b a w → wpAnyLast P md ops Q (fun _ => True) [] m (lof T.2.length O b).toArray a w := by
  subst hT
  have mem_ready' : ∀ {b : Nat → Bool} {i : Nat}, i ∈ Region.ready md ops (lof (rtab md ops).2.length O b).toArray → i < (rtab md ops).2.length ∧ O.contains i = true ∧ b i = false ∧ ∀ r, (rtab md ops).2[i]? = some r → ∀ n ∈ r.1, n < (rtab md ops).2.length → O.contains n = true → b n = true := by
    intro b i hi
    rw [ready_eq] at hi
    unfold readyT at hi
    rw [List.mem_filter, List.mem_range] at hi
    obtain ⟨hl, h1⟩ := hi
    unfold readyAt at h1
    rw [Bool.and_eq_true, lof_get hl] at h1
    obtain ⟨h2, h3⟩ := h1
    have h4 : O.contains i = true := by
      cases h : O.contains i with
      | true => rfl
      | false => rw [h] at h2; simp at h2
    rw [h4] at h2
    refine ⟨hl, h4, by simpa using h2, fun r hr n hn hnl hO => ?_⟩
    rw [hr] at h3
    simp only [List.all_eq_true] at h3
    have h5 := h3 n hn
    rw [lof_get hnl, hO] at h5
    simpa using h5
  intro m
  induction m with
  | zero =>
    intro b a w hm hc hI
    have hall : ∀ j, O.contains j = true → b j = true := by
      intro j hj
      cases hb : b j with
      | true => rfl
      | false =>
        have : j ∈ O.filter fun j => !b j := List.mem_filter.2 ⟨List.contains_iff_mem.1 hj, by simp [hb]⟩
        rw [List.eq_nil_of_length_eq_zero hm] at this
        cases this
    refine ⟨?_, hend b a w hall hI⟩
    refine List.eq_nil_iff_forall_not_mem.2 (fun i hi => ?_)
    obtain ⟨_, h1, h2, _⟩ := mem_ready' hi
    rw [hall i h1] at h2
    cases h2
  | succ m ih =>
    intro b a w hm hc hI
    refine ⟨fun hr => ?_, fun i hi => ?_⟩
    · exfalso
      -- the smallest number that isn't listed is ready
      have hex : ∃ i, O.contains i = true ∧ b i = false := by
        cases hf : O.filter (fun j => !b j) with
        | nil => rw [hf] at hm; simp at hm
        | cons x r =>
          have hx : x ∈ O.filter (fun j => !b j) := by rw [hf]; exact List.mem_cons_self
          rw [List.mem_filter] at hx
          exact ⟨x, List.contains_iff_mem.2 hx.1, by simpa using hx.2⟩
      have hmin : ∀ k, (∃ i, i ≤ k ∧ O.contains i = true ∧ b i = false) → ∃ i, O.contains i = true ∧ b i = false ∧ ∀ j, j < i → O.contains j = true → b j = true := by
        intro k
        induction k with
        | zero =>
          rintro ⟨i, hi, h1, h2⟩
          exact ⟨i, h1, h2, fun j hj => by omega⟩
        | succ k ihk =>
          rintro ⟨i, hi, h1, h2⟩
          by_cases hlow : ∃ j, j ≤ k ∧ O.contains j = true ∧ b j = false
          · exact ihk hlow
          · refine ⟨i, h1, h2, fun j hj hO => ?_⟩
            cases hb : b j with
            | true => rfl
            | false => exact absurd ⟨j, by omega, hO, hb⟩ hlow
      obtain ⟨i0, h1, h2⟩ := hex
      obtain ⟨i, hO, hb, hlow⟩ := hmin i0 ⟨i0, Nat.le_refl _, h1, h2⟩
      have hl := baseOk_lt hk (List.contains_iff_mem.1 hO)
      have hin : i ∈ Region.ready md ops (lof (rtab md ops).2.length O b).toArray := by
        rw [ready_eq]
        unfold readyT
        rw [List.mem_filter, List.mem_range]
        refine ⟨hl, ?_⟩
        unfold readyAt
        rw [lof_get hl, hO, hb]
        have hr2 : (rtab md ops).2[i]? = some (rtab md ops).2[i] := List.getElem?_eq_getElem hl
        rw [hr2]
        simp only [if_true, Bool.not_false, Bool.true_and, List.all_eq_true]
        intro n hn
        have hni := (baseOk_row hk hr2).2 n hn
        rw [lof_get (by omega)]
        cases hOn : O.contains n with
        | true => simpa using hlow n hni hOn
        | false => simp
      rw [hr] at hin
      cases hin
    · obtain ⟨hl, hO, hb, hneed⟩ := mem_ready' hi
      have hon : ∀ j, (O.contains j && (B.getD i 0).testBit j) = true → b j = true := by
        intro j hj
        rw [Bool.and_eq_true] at hj
        have hr2 : (rtab md ops).2[i]? = some (rtab md ops).2[i] := List.getElem?_eq_getElem hl
        have h1 := List.all_eq_true.1 hw i (List.mem_range.2 hl)
        rw [hr2] at h1
        simp only [beq_iff_eq] at h1
        have h2 : (upM B i (rtab md ops).2[i].1).testBit j = true := by rw [← h1, Nat.testBit_or, hj.2, Bool.true_or]
        obtain ⟨n, hn, h3⟩ := upM_bit h2
        have hni := (baseOk_row hk hr2).2 n hn
        rcases h3 with rfl | ⟨h4, h5⟩
        · exact hneed _ hr2 n hn (by omega) hj.1
        · cases hO2 : O.contains n with
          | true => exact closed_bits hw hk hc n n (Nat.le_refl _) (by omega) hO2 (hneed _ hr2 n hn (by omega) hO2) j hj.1 h5
          | false =>
            have := bits_out hw hk n n (Nat.le_refl _) (by omega) hO2 j h5
            rw [hj.1] at this
            cases this
      have hoff : ∀ d, (O.contains d && (B.getD d 0).testBit i) = true → b d = false := by
        intro d hd
        rw [Bool.and_eq_true] at hd
        cases hbd : b d with
        | false => rfl
        | true =>
          have hdl := baseOk_lt hk (List.contains_iff_mem.1 hd.1)
          have := closed_bits hw hk hc d d (Nat.le_refl _) hdl hd.1 hbd i hO hd.2
          rw [hb] at this
          cases this
      obtain ⟨oi, hoi, hK⟩ := hs i (List.contains_iff_mem.1 hO) b a w hI hb hon hoff
      refine wpOp_step hoi (fun K' hK' => hK K' (fun a' w' hI' => hK' a' w' ⟨fun _ _ => trivial, ?_⟩))
      have hset : (lof (rtab md ops).2.length O b).toArray.setIfInBounds i true = (lof (rtab md ops).2.length O (up b i)).toArray := by
        apply Array.ext'
        rw [Array.toList_setIfInBounds]
        exact lof_up hO
      rw [hset]
      refine ih (up b i) a' w' ?_ ?_ hI'
      · have := up_count (baseOk_nodup hk) (List.contains_iff_mem.1 hO) hb
        omega
      · intro d r hr hOd hbd n hn hOn
        by_cases hni : n = i
        · rw [hni, up_self]
        · rw [up_ne hni]
          by_cases hdi : d = i
          · subst hdi
            exact hneed r hr n hn (by have := (baseOk_row hk hr).2 n hn; omega) hOn
          · rw [up_ne hdi] at hbd
            exact hc d r hr hOd hbd n hn hOn
theorem putSel_size (b : Nat → Bool) : ∀ (L : List (Nat × Tmp × Value)) (a : Act), (putSel a b L).tmps.size = a.tmps.size ∧ (putSel a b L).defers = a.defers
  | [], a => ⟨rfl, rfl⟩
  | e :: r, a => by
    unfold putSel
    by_cases h : b e.1 = true
    · rw [if_pos h]
      have := putSel_size b r (a.put (some e.2.1) e.2.2)
      exact ⟨this.1.trans (by simp [Act.put]), this.2.trans rfl⟩
    · rw [if_neg h]
      exact putSel_size b r a
theorem putSel_off {b : Nat → Bool} {t : Tmp} : ∀ {L : List (Nat × Tmp × Value)} {a : Act}, (L.all fun e => !(e.2.1 == t)) = true → (putSel a b L).tmps[t]? = a.tmps[t]?
  | [], _, _ => rfl
  | e :: r, a, h => by
    rw [List.all_cons, Bool.and_eq_true] at h
    have he : e.2.1 ≠ t := by simpa using h.1
    unfold putSel
    by_cases hb : b e.1 = true
    · rw [if_pos hb, putSel_off h.2]
      simp [Act.put, Array.getElem?_setIfInBounds_ne he]
    · rw [if_neg hb]
      exact putSel_off h.2
theorem putSel_on {b : Nat → Bool} {e : Nat × Tmp × Value} : ∀ {L : List (Nat × Tmp × Value)} {a : Act} (k : Nat), L[k]? = some e → ((L.drop (k + 1)).all fun x => !(x.2.1 == e.2.1)) = true → b e.1 = true → Nat.ble (e.2.1 + 1) a.tmps.size = true → (putSel a b L).tmps[e.2.1]? = some e.2.2
  | [], _, _, h, _, _, _ => by cases h
  | x :: r, a, 0, h, hd, hb, ht => by
    simp only [List.getElem?_cons_zero, Option.some.injEq] at h
    subst h
    unfold putSel
    rw [if_pos hb, putSel_off (by simpa using hd)]
    have ht2 : x.2.1 < a.tmps.size := Nat.le_of_ble_eq_true ht
    simp [Act.put, ht2]
  | x :: r, a, k + 1, h, hd, hb, ht => by
    unfold putSel
    refine putSel_on k (by simpa using h) (by simpa using hd) hb ?_
    by_cases hx : b x.1 = true
    · rw [if_pos hx]
      simpa [Act.put] using ht
    · rw [if_neg hx]
      exact ht
theorem put_comm {a : Act} {s t : Tmp} {u v : Value} (h : s ≠ t) : (a.put (some s) u).put (some t) v = (a.put (some t) v).put (some s) u := by
  simp only [Act.put]
  rw [Array.setIfInBounds_comm _ _ h]
theorem putSel_put {b : Nat → Bool} {t : Tmp} {v : Value} : ∀ {L : List (Nat × Tmp × Value)} {a : Act}, (L.all fun e => !(e.2.1 == t)) = true → (putSel a b L).put (some t) v = putSel (a.put (some t) v) b L
  | [], _, _ => rfl
  | e :: r, a, h => by
    rw [List.all_cons, Bool.and_eq_true] at h
    have he : e.2.1 ≠ t := by simpa using h.1
    unfold putSel
    by_cases hb : b e.1 = true
    · rw [if_pos hb, if_pos hb, putSel_put h.2, put_comm he]
    · rw [if_neg hb, if_neg hb]
      exact putSel_put h.2
theorem putSel_same {b : Nat → Bool} {i : Nat} : ∀ {L : List (Nat × Tmp × Value)} {a : Act}, (L.all fun e => !(e.1 == i)) = true → putSel a (up b i) L = putSel a b L
  | [], _, _ => rfl
  | e :: r, a, h => by
    rw [List.all_cons, Bool.and_eq_true] at h
    have he : e.1 ≠ i := by simpa using h.1
    unfold putSel
    rw [up_ne he]
    exact putSel_same h.2
theorem putSel_up {b : Nat → Bool} {i : Nat} {t : Tmp} {v0 v : Value} : ∀ {L1 L2 : List (Nat × Tmp × Value)} {a : Act}, b i = false → ((L1 ++ L2).all fun e => !(e.1 == i) && !(e.2.1 == t)) = true →
    (putSel a b (L1 ++ (i, t, v0) :: L2)).put (some t) v = putSel a (up b i) (L1 ++ (i, t, v) :: L2)
  | [], L2, a, hb, h => by
    simp only [List.nil_append] at h ⊢
    have h1 : (L2.all fun e => !(e.1 == i)) = true := List.all_eq_true.2 (fun e he => by have := List.all_eq_true.1 h e he; simp only [Bool.and_eq_true] at this; exact this.1)
    have h2 : (L2.all fun e => !(e.2.1 == t)) = true := List.all_eq_true.2 (fun e he => by have := List.all_eq_true.1 h e he; simp only [Bool.and_eq_true] at this; exact this.2)
    unfold putSel
    rw [if_neg (by rw [hb]; decide), if_pos (up_self b i), putSel_put h2, putSel_same h1]
  | e :: r, L2, a, hb, h => by
    simp only [List.cons_append, List.all_cons, Bool.and_eq_true] at h
    have he : e.1 ≠ i := by simpa using h.1.1
    simp only [List.cons_append]
    unfold putSel
    rw [up_ne he]
    exact putSel_up hb h.2
theorem putSel_upk {b : Nat → Bool} {i : Nat} {t : Tmp} {v0 v : Value} {a : Act} {L L' : List (Nat × Tmp × Value)} (k : Nat) (hb : b i = false) (hL : L[k]? = some (i, t, v0)) (hL' : L.set k (i, t, v) = L') (hd : ((L.take k ++ L.drop (k + 1)).all fun e => !(e.1 == i) && !(e.2.1 == t)) = true) :
    (putSel a b L).put (some t) v = putSel a (up b i) L' := by
  have hk := (List.getElem?_eq_some_iff.1 hL).1
  have h1 : L = L.take k ++ (i, t, v0) :: L.drop (k + 1) := by
    have h2 : L[k] = (i, t, v0) := (List.getElem?_eq_some_iff.1 hL).2
    rw [← h2, List.getElem_cons_drop, List.take_append_drop]
  have h3 : L' = L.take k ++ (i, t, v) :: L.drop (k + 1) := by rw [← hL', List.set_eq_take_append_cons_drop, if_pos hk]
  rw [h3]
  conv => lhs; rw [h1]
  exact putSel_up hb hd
theorem inv_ {l : Array Bool} {fuel : Nat} {a : Act} {w : World} (O : List Nat) (I : (Nat → Bool) → Act → World → Prop) (hT : rtab md ops = T) (hw : waitsOk T.2 B = true) (hk : baseOk T.2 O = true)
    (hl : (lof T.2.length O (fun _ => false) == l.toList && O.length == fuel) = true) (h0 : I (fun _ => false) a w) (hs : ∀ i ∈ O, StepAt P ops Q B O I i)
    (hend : ∀ b a w, (∀ j, O.contains j = true → b j = true) → I b a w → Q .normal a w) : wpAnyLast P md ops Q (fun _ => True) [] fuel l a w := by
  rw [Bool.and_eq_true, beq_iff_eq, beq_iff_eq] at hl
  have h1 := inv_all hT hw hk I hs hend fuel (fun _ => false) a w (by rw [← hl.2]; simp) (fun d r _ _ hb => by cases hb) h0
  have h2 : (lof T.2.length O (fun _ => false)).toArray = l := by apply Array.ext'; exact hl.1
  rw [h2] at h1
  exact h1
end
end Go.Proofs.YtdleomeiojlooaaW.PrintLast
end

section
namespace Go.Proofs.Ytdleomeiojlooaa.P
set_option linter.unusedVariables false
set_option linter.unusedSimpArgs false
open Go.RowKit Go.ChangeShapes Go.WideShapes Go.Proofs.YtdleomeiojlooaaW.PrintWords Go.Proofs.YtdleomeiojlooaaW.PrintLast Go.Proofs.YtdleomeiojlooaaW.PrintMore
structure WX where
  w : World
  X : List Nat
def WX.fresh (e : WX) (g : Nat) : Prop := e.w.heap.size ≤ g ∨ g ∈ e.X
structure Fr (e : WX) (w : World) : Prop where
  os : w.os = e.w.os
  tape : w.tape = e.w.tape
  output : w.output = e.w.output
  size : e.w.heap.size ≤ w.heap.size
  block : ∀ k, k < e.w.heap.size → k ∉ e.X → w.heap[k]? = e.w.heap[k]?
theorem Fr.refl (w : World) (X : List Nat) : Fr ⟨w, X⟩ w := ⟨rfl, rfl, rfl, Nat.le_refl _, fun _ _ _ => rfl⟩
theorem Fr.call {e : WX} {w w' : World} (h : Fr e w) (hb : Below w.heap.size w w') : Fr e w' :=
  ⟨hb.os.trans h.os, hb.tape.trans h.tape, hb.output.trans h.output, Nat.le_trans h.size hb.size, fun k hk hx => (hb.block k (Nat.lt_of_lt_of_le hk h.size)).trans (h.block k hk hx)⟩
theorem Fr.drew {e : WX} {w : World} (h : Fr e w) : Fr e w.drew := ⟨h.os, h.tape, h.output, h.size, h.block⟩
theorem Fr.alloc {e : WX} {w : World} (h : Fr e w) (o : Obj) : Fr e (w.alloc o) := h.call ((Below.refl _ w).alloc (Nat.le_refl _) o)
theorem Fr.stored {e : WX} {w w' : World} {g : Nat} (h : Fr e w) (hs : Stored w w' g) (hg : e.fresh g) : Fr e w' := by
  have h0 := hs.bel 0 w (Nat.zero_le _) (Below.refl 0 w)
  refine ⟨h0.os.trans h.os, h0.tape.trans h.tape, h0.output.trans h.output, Nat.le_trans h.size h0.size, fun k hk hx => (hs.other k ?_).trans (h.block k hk hx)⟩
  rintro rfl
  rcases hg with hg | hg
  · omega
  · exact hx hg
theorem Fr.touch {e : WX} {w w' : World} {g : Nat} (h : Fr e w) (h2 : Fr ⟨w, [g]⟩ w') (hg : e.fresh g) : Fr e w' := by
  refine ⟨h2.os.trans h.os, h2.tape.trans h.tape, h2.output.trans h.output, Nat.le_trans h.size h2.size, fun k hk hx => (h2.block k (Nat.lt_of_lt_of_le hk h.size) ?_).trans (h.block k hk hx)⟩
  intro hm
  rw [List.mem_singleton] at hm
  subst hm
  rcases hg with hg | hg
  · omega
  · exact hx hg
theorem Fr.below {w w' : World} (h : Fr ⟨w, []⟩ w') : Below w.heap.size w w' := ⟨h.os, h.tape, h.output, h.size, fun k hk => h.block k hk (by simp)⟩
theorem Fr.of {w w' : World} (h : Below w.heap.size w w') : Fr ⟨w, []⟩ w' := (Fr.refl w []).call h
structure Ent where
  g : Nat
  born : Option Nat
  stored : Option Nat
  k : CK
  n : Nat
  f0 : Nat → SC
  f1 : Nat → SC
  t : TypeId
def Ent.ad (x : Ent) (G : Nat → Nat) : Nat := match x.born with
  | none => x.g
  | some i => G i
inductive SV where
  | val (v : Value)
  | new (i : Nat) (mk : Nat → Value)
def SV.sl (i n c : Nat) : SV := .new i fun g => .slice (some ⟨g, 0, none⟩) n c
def SV.at (G : Nat → Nat) : SV → Value
  | .val v => v
  | .new i mk => mk (G i)
def SV.of (i : Nat) : SV → Bool
  | .val _ => false
  | .new j _ => j == i
def vals (G : Nat → Nat) (L : List (Nat × Tmp × SV)) : List (Nat × Tmp × Value) := L.map fun e => (e.1, e.2.1, e.2.2.at G)
structure RowD where
  g : Nat
  k : CK
  n : Nat
  f : Nat → SC
  t : TypeId
def Held (wE : WX) (w : World) (R : List RowD) : Prop := Fr wE w ∧ (∀ r ∈ R, wE.fresh r.g ∧ Row w r.g r.k r.n r.f r.t) ∧ (R.map RowD.g).Nodup
def isOn (b : Nat → Bool) (d : Bool) : Option Nat → Bool
  | none => d
  | some i => b i
def Ent.f (x : Ent) (b : Nat → Bool) : Nat → SC := if isOn b false x.stored = true then x.f1 else x.f0
def RI (wE : WX) (a0 : Act) (L : List (Nat × Tmp × SV)) (A : List Ent) (b : Nat → Bool) (a : Act) (w : World) : Prop :=
  ∃ G : Nat → Nat, a = putSel a0 b (vals G L) ∧ Fr wE w ∧ (∀ x ∈ A, isOn b true x.born = true → wE.fresh (x.ad G) ∧ Row w (x.ad G) x.k x.n (x.f b) x.t) ∧
    A.Pairwise (fun x y => isOn b true x.born = true → isOn b true y.born = true → x.ad G ≠ y.ad G)
section
variable {P : Program} {ops : Array Oper} {Q : Exit → Act → World → Prop} {B O : List Nat} {wE : WX} {a0 : Act} {L : List (Nat × Tmp × SV)} {A : List Ent} {i : Nat}
def Ons (B O : List Nat) (i : Nat) (b : Nat → Bool) : Prop := ∀ j, (O.contains j && (B.getD i 0).testBit j) = true → b j = true
def Offs (B O : List Nat) (i : Nat) (b : Nat → Bool) : Prop := ∀ d, (O.contains d && (B.getD d 0).testBit i) = true → b d = false
theorem isOn_up {b : Nat → Bool} {d : Bool} {i : Nat} {o : Option Nat} (h : (o == some i) = false) : isOn (up b i) d o = isOn b d o := by
  cases o with
  | none => rfl
  | some j =>
    have hj : j ≠ i := fun e => by subst e; simp at h
    exact up_ne hj
def LOk (L : List (Nat × Tmp × SV)) : Prop := (L.map fun e => e.1).Nodup ∧ (L.map fun e => e.2.1).Nodup
def nodB : List Nat → Bool
  | [] => true
  | a :: r => (r.all fun b => !Nat.beq a b) && nodB r
theorem nodB_is : ∀ {l : List Nat}, nodB l = true → l.Nodup
  | [], _ => List.nodup_nil
  | a :: r, h => by
    unfold nodB at h
    rw [Bool.and_eq_true] at h
    refine List.nodup_cons.2 ⟨fun hm => ?_, nodB_is h.2⟩
    have := List.all_eq_true.1 h.1 a hm
    rw [Nat.beq_refl] at this
    cases this
theorem lok (h1 : nodB (L.map fun e => e.1) = true) (h2 : nodB (L.map fun e => e.2.1) = true) : LOk L := ⟨nodB_is h1, nodB_is h2⟩
theorem vals_get {G : Nat → Nat} {k : Nat} {e : Nat × Tmp × SV} (h : L[k]? = some e) : (vals G L)[k]? = some (e.1, e.2.1, e.2.2.at G) := by
  unfold vals
  rw [List.getElem?_map, h]; rfl
theorem LOk.drop {d : Nat} {t : Tmp} {v : SV} {k : Nat} (h : LOk L) (hL : L[k]? = some (d, t, v)) (G : Nat → Nat) : (((vals G L).drop (k + 1)).all fun x => !(x.2.1 == t)) = true := by
  rw [List.all_eq_true]
  intro e he
  obtain ⟨m, hm⟩ := List.getElem?_of_mem he
  rw [List.getElem?_drop] at hm
  unfold vals at hm
  rw [List.getElem?_map] at hm
  cases h2 : L[k + 1 + m]? with
  | none => rw [h2] at hm; cases hm
  | some e2 =>
    rw [h2] at hm
    obtain rfl := Option.some.inj hm
    have h3 := h.2
    rw [List.nodup_iff_pairwise_ne, List.pairwise_iff_getElem] at h3
    obtain ⟨hk, hke⟩ := List.getElem?_eq_some_iff.1 hL
    obtain ⟨hl, hle⟩ := List.getElem?_eq_some_iff.1 h2
    have := h3 k (k + 1 + m) (by simpa using hk) (by simpa using hl) (by omega)
    simp only [List.getElem_map, hke, hle] at this
    simpa using fun e => this e.symm
theorem LOk.rest {N : Tmp} {v : SV} {k : Nat} (h : LOk L) (hL : L[k]? = some (i, N, v)) (G : Nat → Nat) : (((vals G L).take k ++ (vals G L).drop (k + 1)).all fun e => !(e.1 == i) && !(e.2.1 == N)) = true := by
  rw [List.all_eq_true]
  intro e he
  obtain ⟨hk, hke⟩ := List.getElem?_eq_some_iff.1 hL
  have key : ∃ j, j ≠ k ∧ (vals G L)[j]? = some e := by
    rw [List.mem_append] at he
    rcases he with he | he
    · obtain ⟨m, hm⟩ := List.getElem?_of_mem he
      have hlt : m < k := by
        apply Decidable.byContradiction
        intro hn
        rw [List.getElem?_eq_none (by simp; omega)] at hm; cases hm
      exact ⟨m, by omega, by rw [List.getElem?_take_of_lt hlt] at hm; exact hm⟩
    · obtain ⟨m, hm⟩ := List.getElem?_of_mem he
      rw [List.getElem?_drop] at hm
      exact ⟨k + 1 + m, by omega, hm⟩
  obtain ⟨j, hj, hje⟩ := key
  unfold vals at hje
  rw [List.getElem?_map] at hje
  cases h2 : L[j]? with
  | none => rw [h2] at hje; cases hje
  | some e2 =>
    rw [h2] at hje
    obtain rfl := Option.some.inj hje
    obtain ⟨hl, hle⟩ := List.getElem?_eq_some_iff.1 h2
    have h3 := h.1
    have h4 := h.2
    rw [List.nodup_iff_pairwise_ne, List.pairwise_iff_getElem] at h3 h4
    have a1 : e2.1 ≠ i := by
      rcases Nat.lt_or_ge j k with hlt | hge
      · have := h3 j k (by simpa using hl) (by simpa using hk) hlt
        simpa only [List.getElem_map, hke, hle] using this
      · have := h3 k j (by simpa using hk) (by simpa using hl) (by omega)
        simp only [List.getElem_map, hke, hle] at this
        exact fun e => this e.symm
    have a2 : e2.2.1 ≠ N := by
      rcases Nat.lt_or_ge j k with hlt | hge
      · have := h4 j k (by simpa using hl) (by simpa using hk) hlt
        simpa only [List.getElem_map, hke, hle] using this
      · have := h4 k j (by simpa using hk) (by simpa using hl) (by omega)
        simp only [List.getElem_map, hke, hle] at this
        exact fun e => this e.symm
    simp [a1, a2]
theorem vals_setG {G : Nat → Nat} {N : Tmp} {k g : Nat} {mk : Nat → Value} (h : ((L.take k ++ L.drop (k + 1)).all fun e => !e.2.2.of i) = true) (hL : L[k]? = some (i, N, .new i mk)) : vals (fun j => if j = i then g else G j) L = (vals G L).set k (i, N, mk g) := by
  obtain ⟨hk, hke⟩ := List.getElem?_eq_some_iff.1 hL
  apply List.ext_getElem?
  intro j
  by_cases hj : j = k
  · subst hj
    rw [List.getElem?_set_self (by unfold vals; simpa using hk), vals_get hL]
    simp [SV.at]
  · rw [List.getElem?_set_ne (Ne.symm hj)]
    unfold vals
    rw [List.getElem?_map, List.getElem?_map]
    cases h2 : L[j]? with
    | none => rfl
    | some e =>
      have hm : e ∈ L.take k ++ L.drop (k + 1) := by
        rw [List.mem_append]
        by_cases hlt : j < k
        · left; exact List.mem_of_getElem? (i := j) (by rw [List.getElem?_take_of_lt hlt]; exact h2)
        · right; exact List.mem_of_getElem? (i := j - (k + 1)) (by rw [List.getElem?_drop]; rw [show k + 1 + (j - (k + 1)) = j by omega]; exact h2)
      have h3 := List.all_eq_true.1 h e hm
      obtain ⟨e1, e2, e3⟩ := e
      cases e3 with
      | val v => rfl
      | new p off =>
        simp only [SV.of, Bool.not_eq_true', beq_eq_false_iff_ne] at h3
        simp [SV.at, h3]
theorem ev_on {b : Nat → Bool} {G : Nat → Nat} {d : Nat} {t : Tmp} {v : SV} (hLo : LOk L) (k : Nat) (hL : L[k]? = some (d, t, v)) {sz : Nat} (hsz : a0.tmps.size = sz) (hs : Nat.ble (t + 1) sz = true) (hb : b d = true) : (putSel a0 b (vals G L)).eval (.tmp t) = v.at G := by
  subst hsz
  have h := putSel_on (a := a0) (b := b) (e := (d, t, v.at G)) k (vals_get hL) (hLo.drop hL G) hb hs
  show (putSel a0 b (vals G L)).tmps.getD t undef = v.at G
  rw [Array.getD_eq_getD_getElem?, h]
  rfl
theorem ev_off {b : Nat → Bool} {G : Nat → Nat} {t : Tmp} {v : Value} (h : (L.all fun e => !(e.2.1 == t)) = true) (hv : a0.eval (.tmp t) = v) : (putSel a0 b (vals G L)).eval (.tmp t) = v := by
  show (putSel a0 b (vals G L)).tmps.getD t undef = v
  rw [Array.getD_eq_getD_getElem?, putSel_off (by unfold vals; rw [List.all_map]; exact h), ← Array.getD_eq_getD_getElem?]
  exact hv
theorem putSel_pre {b : Nat → Bool} {t : Tmp} : ∀ {M : List (Nat × Tmp × Value)} {a : Act}, (∀ e ∈ M, e.2.1 = t → b e.1 = false) → (putSel a b M).tmps[t]? = a.tmps[t]?
  | [], _, _ => rfl
  | e :: r, a, h => by
    unfold putSel
    by_cases hb : b e.1 = true
    · have he : e.2.1 ≠ t := fun h2 => by have := h e List.mem_cons_self h2; rw [hb] at this; cases this
      rw [if_pos hb, putSel_pre (fun x hx => h x (List.mem_cons_of_mem _ hx))]
      simp [Act.put, Array.getElem?_setIfInBounds_ne he]
    · rw [if_neg hb]
      exact putSel_pre (fun x hx => h x (List.mem_cons_of_mem _ hx))
theorem ev_pre {b : Nat → Bool} {G : Nat → Nat} {d : Nat} {t : Tmp} {sv : SV} {v : Value} (hLo : LOk L) (k : Nat) (hL : L[k]? = some (d, t, sv)) (hb : b d = false) (hv : a0.eval (.tmp t) = v) : (putSel a0 b (vals G L)).eval (.tmp t) = v := by
  show (putSel a0 b (vals G L)).tmps.getD t undef = v
  rw [Array.getD_eq_getD_getElem?, putSel_pre (fun e he h2 => ?_), ← Array.getD_eq_getD_getElem?]
  · exact hv
  · unfold vals at he
    obtain ⟨e2, he2, rfl⟩ := List.mem_map.1 he
    obtain ⟨j, hj⟩ := List.getElem?_of_mem he2
    obtain ⟨hk, hke⟩ := List.getElem?_eq_some_iff.1 hL
    obtain ⟨hl, hle⟩ := List.getElem?_eq_some_iff.1 hj
    have h4 := hLo.2
    rw [List.nodup_iff_pairwise_ne, List.pairwise_iff_getElem] at h4
    have : j = k := by
      apply Decidable.byContradiction
      intro hne
      rcases Nat.lt_or_ge j k with hlt | hge
      · have := h4 j k (by simpa using hl) (by simpa using hk) hlt
        simp only [List.getElem_map, hke, hle] at this
        exact this h2
      · have := h4 k j (by simpa using hk) (by simpa using hl) (by omega)
        simp only [List.getElem_map, hke, hle] at this
        exact this h2.symm
    subst this
    rw [hL] at hj
    obtain rfl := Option.some.inj hj
    exact hb
theorem st_keep {N : Tmp} {oi : Oper} (k : Nat) (v : SV) (hoi : ops[i]? = some oi) (hN : oi.dst = some N) (hLo : LOk L) (hL : L[k]? = some (i, N, v))
    (hA : (A.all fun x => !(x.born == some i) && !(x.stored == some i)) = true)
    (hgo : ∀ b G w (K : Act → World → Prop), Fr wE w → Ons B O i b → Offs B O i b → (∀ x ∈ A, isOn b true x.born = true → wE.fresh (x.ad G) ∧ Row w (x.ad G) x.k x.n (x.f b) x.t) →
      (∀ w', Below w.heap.size w w' → K ((putSel a0 b (vals G L)).put oi.dst (v.at G)) w') →
      if Region.wanted oi (yielded ops (putSel a0 b (vals G L)).tmps) = true then Oper.wp P oi (putSel a0 b (vals G L)) w K Q else K ((putSel a0 b (vals G L)).put oi.dst undef) w) :
    StepAt P ops Q B O (RI wE a0 L A) i := by
  rintro b a w ⟨G, rfl, hB, hR, hD⟩ hb hon hoff
  refine ⟨oi, hoi, fun K hK => hgo b G w K hB hon hoff hR (fun w' hw' => hK _ _ ⟨G, ?_, hB.call hw', fun x hx hbx => ?_, ?_⟩)⟩
  · rw [hN]
    exact putSel_upk k hb (vals_get hL) (by have h := vals_get (G := G) hL; obtain ⟨h1, h2⟩ := List.getElem?_eq_some_iff.1 h; rw [← h2]; exact List.set_getElem_self h1) (hLo.rest hL G)
  · have hx2 := List.all_eq_true.1 hA x hx
    simp only [Bool.and_eq_true, Bool.not_eq_true'] at hx2
    rw [isOn_up hx2.1] at hbx
    have h := hR x hx hbx
    have e : x.f (up b i) = x.f b := by unfold Ent.f; rw [isOn_up hx2.2]
    rw [e]
    exact ⟨h.1, h.2.below hw' h.2.lt⟩
  · refine hD.imp_of_mem (fun {x y} hx hy h h1 h2 => ?_)
    have hx2 := List.all_eq_true.1 hA x hx
    have hy2 := List.all_eq_true.1 hA y hy
    simp only [Bool.and_eq_true, Bool.not_eq_true'] at hx2 hy2
    rw [isOn_up hx2.1] at h1
    rw [isOn_up hy2.1] at h2
    exact h h1 h2
theorem st_run {N : Tmp} {oi : Oper} (k : Nat) (v : SV) (hoi : ops[i]? = some oi) (hN : oi.dst = some N) (hLo : LOk L) (hL : L[k]? = some (i, N, v))
    (hA : (A.all fun x => !(x.born == some i) && !(x.stored == some i)) = true)
    (hw : ∀ b G, Ons B O i b → Offs B O i b → Region.wanted oi (yielded ops (putSel a0 b (vals G L)).tmps) = true) (hrun : ∀ b G w, Ons B O i b → Offs B O i b → (execOp (putSel a0 b (vals G L)).eval oi).run P w = .ok (.value (v.at G)) w) : StepAt P ops Q B O (RI wE a0 L A) i :=
  st_keep k v hoi hN hLo hL hA (fun b G w K hB hon hoff hR hK => event_step (hw b G hon hoff) (hrun b G w hon hoff) (hK _ (Below.refl _ _)))
def onB (B O : List Nat) (i : Nat) : Option Nat → Bool
  | none => true
  | some j => O.contains j && (B.getD i 0).testBit j
def offB (B O : List Nat) (i : Nat) : Option Nat → Bool
  | none => true
  | some s => O.contains s && (B.getD s 0).testBit i
theorem onB_is {b : Nat → Bool} {o : Option Nat} (h : onB B O i o = true) (hon : Ons B O i b) : isOn b true o = true := by
  cases o with
  | none => rfl
  | some j => exact hon j h
theorem offB_is {b : Nat → Bool} {o : Option Nat} (h : offB B O i o = true) (hoff : Offs B O i b) : isOn b false o = false := by
  cases o with
  | none => rfl
  | some j => exact hoff j h
theorem add_at (g off j : Nat) : (⟨g, off, none⟩ : Addr).add j = ⟨g, off + j, none⟩ := by
  unfold Addr.add
  split
  · subst j; rfl
  · rfl
theorem ad_setG {x : Ent} {G : Nat → Nat} {g : Nat} (h : (x.born == some i) = false) : x.ad (fun j => if j = i then g else G j) = x.ad G := by
  unfold Ent.ad
  cases hb : x.born with
  | none => rfl
  | some j =>
    rw [hb] at h
    have : j ≠ i := fun e => by subst e; simp at h
    simp [this]
theorem st_call {N : Tmp} {oi : Oper} (k : Nat) (v : Value) {f : FuncId} {fn : Func} {asx : Array Operand} {ts : Array TypeId} (args : Array Value) (hoi : ops[i]? = some oi) (hN : oi.dst = some N) (hop : oi.op = .call { callee := .value (.func f), args := asx, argTypes := ts }) (hw : ∀ b G, Ons B O i b → Offs B O i b → Region.wanted oi (yielded ops (putSel a0 b (vals G L)).tmps) = true)
    (hLo : LOk L) (hL : L[k]? = some (i, N, .val v)) (hA : (A.all fun x => !(x.born == some i) && !(x.stored == some i)) = true)
    (hf : P.funcs[f]? = some fn) (hname : (fn.name == "runtime.NumGoroutine") = false) (hbd : fn.body.isSome = true) (hargs : ∀ b G, Ons B O i b → Offs B O i b → asx.map (putSel a0 b (vals G L)).eval = args)
    (hc : ∀ w, Fr wE w → Calls P f args w fun e w' => e = .returned v ∧ Below w.heap.size w w') : StepAt P ops Q B O (RI wE a0 L A) i :=
  st_keep k (.val v) hoi hN hLo hL hA (fun b G w K hB hon hoff hR hK => goes_ hf hname hbd args (hw b G hon hoff) rfl hop (hargs b G hon hoff) ((hc w hB).mono (by
    rintro e w' ⟨rfl, hb⟩
    exact ⟨_, rfl, hK _ hb⟩)))
def setG (G : Nat → Nat) (i g : Nat) : Nat → Nat := fun j => if j = i then g else G j
theorem st_alloc {N : Tmp} {oi : Oper} {mk : Nat → Value} (k r : Nat) (kk : CK) (n : Nat) (t : TypeId) (st : Option Nat) (f0 f1 : Nat → SC) (hoi : ops[i]? = some oi) (hN : oi.dst = some N) (hw : ∀ b G, Ons B O i b → Offs B O i b → Region.wanted oi (yielded ops (putSel a0 b (vals G L)).tmps) = true)
    (hx : A[r]? = some ⟨0, some i, st, kk, n, f0, f1, t⟩) (hLo : LOk L) (hL : L[k]? = some (i, N, .new i mk)) (hL' : ((L.take k ++ L.drop (k + 1)).all fun e => !e.2.2.of i) = true)
    (hA : ((A.take r ++ A.drop (r + 1)).all fun x => !(x.born == some i)) = true) (hAs : (A.all fun x => !(x.stored == some i)) = true)
    (hst : offB B O i st = true) (hrun : ∀ b G w, Ons B O i b → Offs B O i b → (execOp (putSel a0 b (vals G L)).eval oi).run P w = .ok (.value (mk w.heap.size)) (w.alloc (.cells (FR kk n f0) t))) :
    StepAt P ops Q B O (RI wE a0 L A) i := by
  rintro b a w ⟨G, rfl, hB, hR, hD⟩ hb hon hoff
  refine ⟨oi, hoi, fun K hK => event_step (hw b G hon hoff) (hrun b G w hon hoff) (hK _ _ ⟨setG G i w.heap.size, ?_, hB.alloc _, fun x hx' hbx => ?_, ?_⟩)⟩
  · rw [hN]
    exact putSel_upk k hb (vals_get hL) (vals_setG hL' hL).symm (hLo.rest hL G)
  · obtain ⟨j, hj⟩ := List.getElem?_of_mem hx'
    have hxs := List.all_eq_true.1 hAs x hx'
    rw [Bool.not_eq_true'] at hxs
    have e : x.f (up b i) = x.f b := by unfold Ent.f; rw [isOn_up hxs]
    rw [e]
    by_cases hjr : j = r
    · subst hjr
      rw [hx] at hj
      obtain rfl := Option.some.inj hj
      have e2 : (setG G i w.heap.size) i = w.heap.size := if_pos rfl
      have e3 : (⟨0, some i, st, kk, n, f0, f1, t⟩ : Ent).f b = f0 := by unfold Ent.f; rw [offB_is hst hoff]; rfl
      rw [e3]
      show wE.fresh (setG G i w.heap.size i) ∧ Row _ (setG G i w.heap.size i) kk n _ t
      rw [e2]
      exact ⟨.inl hB.size, Row.new _ _ _ _ _⟩
    · have hbx2 : (x.born == some i) = false ∧ isOn b true x.born = true := by
        have hm : x ∈ A.take r ++ A.drop (r + 1) := by
          rw [List.mem_append]
          by_cases hlt : j < r
          · left; exact List.mem_of_getElem? (i := j) (by rw [List.getElem?_take_of_lt hlt]; exact hj)
          · right; exact List.mem_of_getElem? (i := j - (r + 1)) (by rw [List.getElem?_drop]; rw [show r + 1 + (j - (r + 1)) = j by omega]; exact hj)
        have h2 := List.all_eq_true.1 hA x hm
        rw [Bool.not_eq_true'] at h2
        rw [isOn_up h2] at hbx
        exact ⟨h2, hbx⟩
      have h := hR x hx' hbx2.2
      rw [show x.ad (setG G i w.heap.size) = x.ad G from ad_setG hbx2.1]
      exact ⟨h.1, h.2.alloc _⟩
  · -- distinct
    rw [List.pairwise_iff_getElem] at hD ⊢
    intro j1 j2 h1 h2 hlt hb1 hb2
    have key : ∀ (j : Nat) (hj : j < A.length), j ≠ r → isOn (up b i) true (A[j]).born = true → isOn b true (A[j]).born = true ∧ (A[j]).ad (setG G i w.heap.size) = (A[j]).ad G ∧ (A[j]).ad G < w.heap.size := by
      intro j hj hjr hbj
      have hm : A[j] ∈ A.take r ++ A.drop (r + 1) := by
        rw [List.mem_append]
        by_cases hlt : j < r
        · left; exact List.mem_of_getElem? (i := j) (by rw [List.getElem?_take_of_lt hlt]; exact List.getElem?_eq_getElem hj)
        · right; exact List.mem_of_getElem? (i := j - (r + 1)) (by rw [List.getElem?_drop]; rw [show r + 1 + (j - (r + 1)) = j by omega]; exact List.getElem?_eq_getElem hj)
      have h2 := List.all_eq_true.1 hA _ hm
      rw [Bool.not_eq_true'] at h2
      rw [isOn_up h2] at hbj
      exact ⟨hbj, ad_setG h2, (hR _ (List.getElem_mem hj) hbj).2.lt⟩
    have hr := (List.getElem?_eq_some_iff.1 hx)
    obtain ⟨hrl, hre⟩ := hr
    have hself : (A[r]).ad (setG G i w.heap.size) = w.heap.size := by rw [hre]; exact if_pos rfl
    by_cases e1 : j1 = r
    · have hk2 := key j2 h2 (by omega) hb2
      subst e1
      rw [hself, hk2.2.1]; omega
    · have hk1 := key j1 h1 e1 hb1
      by_cases e2 : j2 = r
      · subst e2
        rw [hself, hk1.2.1]; omega
      · have hk2 := key j2 h2 e2 hb2
        rw [hk1.2.1, hk2.2.1]
        exact hD j1 j2 h1 h2 hlt hk1.1 hk2.1
noncomputable def Ent.row (x : Ent) (G : Nat → Nat) : RowD := ⟨@Option.rec Nat (fun _ => Nat) x.g (fun i => G i) x.born, x.k, x.n, @Option.rec Nat (fun _ => Nat → SC) x.f0 (fun _ => x.f1) x.stored, x.t⟩
theorem Ent.row_g (x : Ent) (G : Nat → Nat) : (x.row G).g = x.ad G := by cases x with | mk g born stored k n f0 f1 t => cases born <;> rfl
theorem Ent.row_f (x : Ent) (G : Nat → Nat) : (x.row G).f = if x.stored.isSome then x.f1 else x.f0 := by cases x with | mk g born stored k n f0 f1 t => cases stored <;> rfl
def Ent.row0 (x : Ent) : RowD := ⟨x.g, x.k, x.n, x.f0, x.t⟩
theorem putSel_nil {b : Nat → Bool} : ∀ {M : List (Nat × Tmp × Value)} {a : Act}, (∀ e, b e = false) → putSel a b M = a
  | [], _, _ => rfl
  | e :: r, a, h => by
    unfold putSel
    rw [if_neg (by rw [h]; decide)]
    exact putSel_nil h
theorem RI.start {w : World} {R : List RowD} (hH : Held wE w R) (hR : (A.filter fun x => x.born == none).map Ent.row0 = R) : RI wE a0 L A (fun _ => false) a0 w := by
  obtain ⟨h1, h2, h3⟩ := hH
  subst hR
  refine ⟨fun _ => 0, (putSel_nil (fun _ => rfl)).symm, h1, fun x hx hbx => ?_, ?_⟩
  · have hb0 : x.born = none := by
      cases h : x.born with
      | none => rfl
      | some j => rw [h] at hbx; cases hbx
    have hm : x.row0 ∈ (A.filter fun x => x.born == none).map Ent.row0 := List.mem_map.2 ⟨x, List.mem_filter.2 ⟨hx, by rw [hb0]; rfl⟩, rfl⟩
    have h := h2 _ hm
    have e : x.f (fun _ => false) = x.f0 := by unfold Ent.f; cases x.stored <;> rfl
    rw [e]
    have e2 : x.ad (fun _ => 0) = x.g := by unfold Ent.ad; rw [hb0]
    rw [e2]
    exact h
  · rw [List.map_map] at h3
    have h4 := (List.nodup_iff_pairwise_ne.1 h3)
    rw [List.pairwise_map, List.pairwise_filter] at h4
    refine h4.imp (fun {x y} h h1 h2 => ?_)
    have hx0 : x.born = none := by
      cases hh : x.born with
      | none => rfl
      | some j => rw [hh] at h1; cases h1
    have hy0 : y.born = none := by
      cases hh : y.born with
      | none => rfl
      | some j => rw [hh] at h2; cases h2
    have e1 : x.ad (fun _ => 0) = x.g := by unfold Ent.ad; rw [hx0]
    have e2 : y.ad (fun _ => 0) = y.g := by unfold Ent.ad; rw [hy0]
    rw [e1, e2]
    exact h (by rw [hx0]; rfl) (by rw [hy0]; rfl)
def Sl (a : Act) (sz : Nat) (S : List (Tmp × Value)) : Prop := a.tmps.size = sz ∧ a.defers = [] ∧ ∀ e ∈ S, a.eval (.tmp e.1) = e.2
theorem Sl.get {a : Act} {sz : Nat} {S : List (Tmp × Value)} (h : Sl a sz S) {t : Tmp} {v : Value} (k : Nat) (hk : S[k]? = some (t, v)) : a.eval (.tmp t) = v := h.2.2 _ (List.mem_of_getElem? hk)
def SlOk (L : List (Nat × Tmp × SV)) (S : List (Tmp × Value)) : List (Tmp × SV) → Prop
  | [] => True
  | e :: r => ((∃ d ∈ L, d.2 = (e.1, e.2)) ∨ ((L.all fun d => !(d.2.1 == e.1)) = true ∧ ∃ v, e.2 = .val v ∧ (e.1, v) ∈ S)) ∧ SlOk L S r
theorem slL {S : List (Tmp × Value)} {e : Tmp × SV} {r : List (Tmp × SV)} (k : Nat) {d : Nat} (h : L[k]? = some (d, e.1, e.2)) (hr : SlOk L S r) : SlOk L S (e :: r) := ⟨.inl ⟨_, List.mem_of_getElem? h, rfl⟩, hr⟩
theorem slS {S : List (Tmp × Value)} {t : Tmp} {v : Value} {r : List (Tmp × SV)} (k : Nat) (h : S[k]? = some (t, v)) (ho : (L.all fun d => !(d.2.1 == t)) = true) (hr : SlOk L S r) : SlOk L S ((t, .val v) :: r) := ⟨.inr ⟨ho, v, rfl, List.mem_of_getElem? h⟩, hr⟩
theorem SlOk.mem {S : List (Tmp × Value)} : ∀ {M : List (Tmp × SV)}, SlOk L S M → ∀ e ∈ M, (∃ d ∈ L, d.2 = (e.1, e.2)) ∨ ((L.all fun d => !(d.2.1 == e.1)) = true ∧ ∃ v, e.2 = .val v ∧ (e.1, v) ∈ S)
  | [], _, e, he => by cases he
  | x :: r, h, e, he => by
    rcases List.mem_cons.1 he with rfl | he
    · exact h.1
    · exact h.2.mem e he
theorem RI.fin {b : Nat → Bool} {a : Act} {w : World} {sz : Nat} {S : List (Tmp × Value)} {S' : List (Tmp × SV)} (h : RI wE a0 L A b a w) (hO : ∀ j, O.contains j = true → b j = true) (hA : (A.all fun x => (match x.born with | none => true | some j => O.contains j) && (match x.stored with | none => true | some j => O.contains j)) = true)
    (hLo : LOk L) (hL : (L.all fun e => O.contains e.1 && Nat.ble (e.2.1 + 1) sz) = true) (hS : Sl a0 sz S) (hS' : SlOk L S S') : ∃ G, Sl a sz (S'.map fun e => (e.1, e.2.at G)) ∧ Held wE w (A.map fun x => x.row G) := by
  obtain ⟨G, rfl, hB, hR, hD⟩ := h
  have hbo : ∀ x ∈ A, isOn b true x.born = true := fun x hx => by
    have := List.all_eq_true.1 hA x hx
    rw [Bool.and_eq_true] at this
    cases hh : x.born with
    | none => rfl
    | some j => rw [hh] at this; exact hO j this.1
  have hf : ∀ x ∈ A, x.f b = if x.stored.isSome then x.f1 else x.f0 := fun x hx => by
    have := List.all_eq_true.1 hA x hx
    rw [Bool.and_eq_true] at this
    unfold Ent.f
    cases hh : x.stored with
    | none => rfl
    | some j => rw [hh] at this; simp only [isOn, hO j this.2, Option.isSome_some]
  refine ⟨G, ⟨(putSel_size b _ _).1.trans hS.1, (putSel_size b _ _).2.trans hS.2.1, fun e he => ?_⟩, hB, fun r hr => ?_, ?_⟩
  · obtain ⟨e2, he2, rfl⟩ := List.mem_map.1 he
    rcases hS'.mem e2 he2 with ⟨d, hd, hde⟩ | ⟨ho, v, hv, hm⟩
    · obtain ⟨k, hk⟩ := List.getElem?_of_mem hd
      have h1 := List.all_eq_true.1 hL d hd
      rw [Bool.and_eq_true] at h1
      obtain ⟨d1, d2, d3⟩ := d
      obtain ⟨e1, e3⟩ := e2
      obtain ⟨rfl, rfl⟩ := Prod.mk.inj hde
      exact ev_on hLo k hk hS.1 h1.2 (hO d1 h1.1)
    · obtain ⟨e1, e3⟩ := e2
      simp only at ho hv hm ⊢
      subst hv
      exact ev_off ho (hS.2.2 _ hm)
  · obtain ⟨x, hx, rfl⟩ := List.mem_map.1 hr
    have h := hR x hx (hbo x hx)
    rw [hf x hx] at h
    rw [Ent.row_g, Ent.row_f]
    exact h
  · rw [List.map_map, List.nodup_iff_pairwise_ne, List.pairwise_map]
    refine hD.imp_of_mem (fun {x y} hx hy h => ?_)
    show (x.row G).g ≠ (y.row G).g
    rw [Ent.row_g, Ent.row_g]
    exact h (hbo x hx) (hbo y hy)
theorem region_ {T : Bool × List (List Nat × List Nat)} {w : World} {R : List RowD} {id n sz : Nat} {S : List (Tmp × Value)} (O : List Nat) (S' : List (Tmp × SV)) (L : List (Nat × Tmp × SV)) (A : List Ent) (hm : P.follows .mixedOrders = true) (hn : ops.size = n) (hT : rtab .any ops = T) (hw : waitsOk T.2 B = true) (hk : baseOk T.2 O = true) (hl : (lof T.2.length O (fun _ => false) == List.replicate n false && O.length == n) = true)
    (hH : Held wE w R) (hR : (A.filter fun x => x.born == none).map Ent.row0 = R) (hA : (A.all fun x => (match x.born with | none => true | some j => O.contains j) && (match x.stored with | none => true | some j => O.contains j)) = true) (hLo : LOk L) (hL : (L.all fun e => O.contains e.1 && Nat.ble (e.2.1 + 1) sz) = true) (hS : Sl a0 sz S) (hS' : SlOk L S S')
    (hs : ∀ i ∈ O, StepAt P ops Q B O (RI wE a0 L A) i) (hend : ∀ G a' w', Sl a' sz (S'.map fun e => (e.1, e.2.at G)) → Held wE w' (A.map fun x => x.row G) → Q .normal a' w') : (Code.region id ops true).wp P Q a0 w := by
  refine start_ (n := n) (S := fun _ => True) (ds := []) (Array.replicate n false) hm hn rfl trivial (fun _ => ?_)
  have hH' : Held wE w.drew R := ⟨hH.1.drew, fun r hr => ⟨(hH.2.1 r hr).1, (hH.2.1 r hr).2⟩, hH.2.2⟩
  refine inv_ O (RI wE a0 L A) hT hw hk (by simpa using hl) (RI.start hH' hR) hs (fun b a' w' hall hI => ?_)
  obtain ⟨G, h1, h2⟩ := hI.fin hall hA hLo hL hS hS'
  exact hend G a' w' h1 h2
theorem list_all (B : List Nat) (I : (Nat → Bool) → Act → World → Prop) (hs : ∀ i ∈ List.range ops.size, StepAt P ops Q B (List.range ops.size) I i)
    (hB : ∀ i j, (List.range ops.size).contains j = true → (B.getD i 0).testBit j = true → j < i) (hend : ∀ a w, I (fun j => decide (j < ops.size)) a w → Q .normal a w) :
    ∀ (m k : Nat) (a : Act) (w : World), k + m = ops.size → I (fun j => decide (j < k)) a w → wpList P ops Q (ops.toList.drop k) a w
  | 0, k, a, w, hk, hI => by
    have e : ops.toList.drop k = [] := by rw [List.drop_eq_nil_iff]; simp; omega
    rw [e]
    have e2 : k = ops.size := by omega
    subst e2
    exact hend a w hI
  | m + 1, k, a, w, hk, hI => by
    have hlt : k < ops.toList.length := by simp; omega
    rw [List.drop_eq_getElem_cons hlt]
    obtain ⟨oi, hoi, h⟩ := hs k (List.mem_range.2 (by omega)) _ a w hI (by simp) (fun j hj => by
      rw [Bool.and_eq_true] at hj
      simpa using hB k j hj.1 hj.2) (fun d hd => by
      rw [Bool.and_eq_true] at hd
      have := hB d k (by simp; omega) hd.2
      simp; omega)
    have e : ops.toList[k] = oi := by
      have h1 := List.getElem?_eq_getElem hlt
      rw [Array.getElem?_toList, hoi] at h1
      exact (Option.some.inj h1).symm
    rw [e]
    refine wpList_step (fun K hK => h K (fun a' w' hI' => hK a' w' (list_all B I hs hB hend m (k + 1) a' w' (by omega) ?_)))
    have e2 : (fun j => decide (j < k + 1)) = up (fun j => decide (j < k)) k := by
      funext j
      unfold up
      split
      · subst j; simp
      · rename_i hne
        have : (j < k + 1) = (j < k) := by apply propext; omega
        simp only [this]
    rw [e2]
    exact hI'
def lowB (B : List Nat) (n : Nat) : Bool := (List.range B.length).all fun i => (B.getD i 0) < 2 ^ i
theorem lowB_is {n : Nat} (h : lowB B n = true) (i j : Nat) (hj : (B.getD i 0).testBit j = true) : j < i := by
  by_cases hi : i < B.length
  · have h1 := List.all_eq_true.1 h i (List.mem_range.2 hi)
    rw [decide_eq_true_eq] at h1
    apply Decidable.byContradiction
    intro hn
    have : (B.getD i 0).testBit j = false := Nat.testBit_lt_two_pow (Nat.lt_of_lt_of_le h1 (Nat.pow_le_pow_right (by omega) (by omega)))
    rw [this] at hj; cases hj
  · rw [List.getD_eq_getElem?_getD, List.getElem?_eq_none (by omega)] at hj
    simp at hj
theorem plain_ {w : World} {R : List RowD} {id n sz : Nat} {S : List (Tmp × Value)} (B : List Nat) (S' : List (Tmp × SV)) (L : List (Nat × Tmp × SV)) (A : List Ent) (hn : ops.size = n) (hB : lowB B n = true)
    (hH : Held wE w R) (hR : (A.filter fun x => x.born == none).map Ent.row0 = R) (hA : (A.all fun x => (match x.born with | none => true | some j => (List.range n).contains j) && (match x.stored with | none => true | some j => (List.range n).contains j)) = true) (hLo : LOk L) (hL : (L.all fun e => (List.range n).contains e.1 && Nat.ble (e.2.1 + 1) sz) = true) (hS : Sl a0 sz S) (hS' : SlOk L S S')
    (hs : ∀ i ∈ List.range n, StepAt P ops Q B (List.range n) (RI wE a0 L A) i) (hend : ∀ G a' w', Sl a' sz (S'.map fun e => (e.1, e.2.at G)) → Held wE w' (A.map fun x => x.row G) → Q .normal a' w') : (Code.region id ops false).wp P Q a0 w := by
  subst hn
  refine wp_region_list ?_
  have h := list_all (P := P) (Q := Q) (ops := ops) B (RI wE a0 L A) hs (fun i j _ hj => lowB_is hB i j hj) (fun a w hI => by
    obtain ⟨G, h1, h2⟩ := hI.fin (O := List.range ops.size) (fun j hj => by simpa using hj) hA hLo hL hS hS'
    exact hend G a w h1 h2) ops.size 0 a0 w (by omega) (by
      have e : (fun j : Nat => decide (j < 0)) = fun _ => false := by funext j; simp
      rw [e]
      exact RI.start hH hR)
  simpa using h
theorem then_ {K : Act → World → Prop} {a : Act} {w : World} (h : K a w) : Exit.then K Q .normal a w := h
theorem then_ret {K : Act → World → Prop} {a : Act} {w : World} (h : Q .ret a w) : Exit.then K Q .ret a w := h
theorem args0 {ev : Operand → Value} : (#[] : Array Operand).map ev = #[] := by simp
theorem args1 {ev : Operand → Value} {x : Operand} {u : Value} (h : ev x = u) : #[x].map ev = #[u] := by simp [h]
theorem args2 {ev : Operand → Value} {x y : Operand} {u v : Value} (h : ev x = u) (h2 : ev y = v) : #[x, y].map ev = #[u, v] := by simp [h, h2]
theorem args3 {ev : Operand → Value} {x y z : Operand} {u v t : Value} (h : ev x = u) (h2 : ev y = v) (h3 : ev z = t) : #[x, y, z].map ev = #[u, v, t] := by simp [h, h2, h3]
theorem exec_box {o : Oper} {ev : Operand → Value} {w : World} {ty : TypeId} {x : Operand} {v : Value} {p : Value} {w' : World} (ho : o.op = .box ty x) (hx : ev x = v) (h : (Instr.box ty v).run P w = .ok p w') : (execOp ev o).run P w = .ok (.value p) w' := by
  unfold execOp
  simp only [ho, hx, Sem.run_bind, Sem.run_pure, h, Result.andThen_ok]
theorem exec_build {o : Oper} {ev : Operand → Value} {w : World} {ty : TypeId} {parts : Array (Nat × Operand)} {ps : Array (Nat × Value)} {v : Value} (ho : o.op = .build ty parts) (hx : (parts.map fun (i, x) => (i, ev x)) = ps) (h : (Instr.build ty ps).run P w = .ok v w) : (execOp ev o).run P w = .ok (.value v) w := by
  unfold execOp
  simp only [ho, hx, Sem.run_bind, Sem.run_pure, h, Result.andThen_ok]
theorem exec_field {o : Oper} {ev : Operand → Value} {w : World} {ty : TypeId} {x : Operand} {p v : Value} {n : Nat} (ho : o.op = .fieldAddr ty x n) (hx : ev x = p) (h : (Instr.fieldAt ty p n).run P w = .ok v w) : (execOp ev o).run P w = .ok (.value v) w := by
  unfold execOp
  simp only [ho, hx, Sem.run_bind, Sem.run_pure, h, Result.andThen_ok]
theorem parts1 {ev : Operand → Value} {i : Nat} {x : Operand} {u : Value} (h : ev x = u) : ((#[(i, x)] : Array (Nat × Operand)).map fun (i, x) => (i, ev x)) = #[(i, u)] := by simp [h]
theorem parts2 {ev : Operand → Value} {i j : Nat} {x y : Operand} {u v : Value} (h : ev x = u) (h2 : ev y = v) : ((#[(i, x), (j, y)] : Array (Nat × Operand)).map fun (i, x) => (i, ev x)) = #[(i, u), (j, v)] := by simp [h, h2]
theorem Held.first (w : World) (X : List Nat) : Held ⟨w, X⟩ w [] := ⟨Fr.refl _ _, fun _ h => (by cases h), List.nodup_nil⟩
theorem Held.row {wE : WX} {w : World} {R : List RowD} (h : Held wE w R) (k : Nat) {r : RowD} (hk : R[k]? = some r) : Row w r.g r.k r.n r.f r.t := (h.2.1 r (List.mem_of_getElem? hk)).2
def argS (args : Array Value) : List (Tmp × Value) := args.toList.zipIdx.map fun e => (e.2, e.1)
theorem enter_ {f : FuncId} {fn : Func} {c : Code} {args : Array Value} {w : World} {R : Ending → World → Prop} (sz : Nat) (hf : P.funcs[f]? = some fn) (hb : fn.body = some c) (hsz : args.size + (fn.ntmps - args.size) = sz)
    (h : ∀ a, Sl a sz (argS args) → c.wp P (bodyPost P fn R) a w) : Calls P f args w R := by
  refine calls_of_wp hf hb (h _ ⟨by simpa using hsz, rfl, fun e he => ?_⟩)
  unfold argS at he
  obtain ⟨⟨v, j⟩, hm, rfl⟩ := List.mem_map.1 he
  have h1 := List.mem_zipIdx_iff_getElem?.1 hm
  simp only at h1
  have h2 : args[j]? = some v := by rw [← Array.getElem?_toList]; exact h1
  have hlt : j < args.size := (Array.getElem?_eq_some_iff.1 h2).1
  show (args ++ Array.replicate (fn.ntmps - args.size) undef).getD j undef = v
  rw [Array.getD_eq_getD_getElem?, Array.getElem?_append_left hlt, h2]
  rfl
theorem wanted_is {b : Nat → Bool} {G : Nat → Nat} {oi oj : Oper} {j : Nat} {t u : Bool} {N : Tmp} (hg : oi.guard = some (j, t)) (hoj : ops[j]? = some oj) (hN : oj.dst = some N) {sz : Nat} (hsz : a0.tmps.size = sz) (hs : Nat.ble (N + 1) sz = true) (hv : (putSel a0 b (vals G L)).eval (.tmp N) = .bool u) {r : Bool} (hr : (u == t) = r) :
    Region.wanted oi (yielded ops (putSel a0 b (vals G L)).tmps) = r := by
  have hlt : N < (putSel a0 b (vals G L)).tmps.size := by rw [(putSel_size b _ _).1, hsz]; exact Nat.le_of_ble_eq_true hs
  have h1 : (putSel a0 b (vals G L)).tmps[N]? = some (.bool u) := by
    have h2 : (putSel a0 b (vals G L)).tmps.getD N undef = .bool u := hv
    rw [Array.getD_eq_getD_getElem?, Array.getElem?_eq_getElem hlt] at h2
    rw [Array.getElem?_eq_getElem hlt]
    exact congrArg some h2
  unfold Region.wanted yielded
  simp only [hg, hoj, Option.bind_some, hN, h1]
  subst hr
  cases u <;> cases t <;> rfl
theorem st_skip {N : Tmp} {oi : Oper} (k : Nat) (hoi : ops[i]? = some oi) (hN : oi.dst = some N) (hLo : LOk L) (hL : L[k]? = some (i, N, .val undef)) (hA : (A.all fun x => !(x.born == some i) && !(x.stored == some i)) = true)
    (hw : ∀ b G, Ons B O i b → Offs B O i b → Region.wanted oi (yielded ops (putSel a0 b (vals G L)).tmps) = false) : StepAt P ops Q B O (RI wE a0 L A) i :=
  st_keep k (.val undef) hoi hN hLo hL hA (fun b G w K hB hon hoff hR hK => by
    rw [if_neg (by rw [hw b G hon hoff]; decide)]
    exact hK w (Below.refl _ _))
theorem st_read {N : Tmp} {oi : Oper} (k r : Nat) (x : Ent) (v : SV) (hx : A[r]? = some x) (hoi : ops[i]? = some oi) (hN : oi.dst = some N) (hLo : LOk L) (hL : L[k]? = some (i, N, v))
    (hA : (A.all fun x => !(x.born == some i) && !(x.stored == some i)) = true) (hw : ∀ b G, Ons B O i b → Offs B O i b → Region.wanted oi (yielded ops (putSel a0 b (vals G L)).tmps) = true)
    (hbo : onB B O i x.born = true) (hst : offB B O i x.stored = true) (hrun : ∀ b G w, Ons B O i b → Offs B O i b → Row w (x.ad G) x.k x.n x.f0 x.t → (execOp (putSel a0 b (vals G L)).eval oi).run P w = .ok (.value (v.at G)) w) : StepAt P ops Q B O (RI wE a0 L A) i :=
  st_keep k v hoi hN hLo hL hA (fun b G w K hB hon hoff hR hK => by
    have h := (hR x (List.mem_of_getElem? hx) (onB_is hbo hon)).2
    have e : x.f b = x.f0 := by unfold Ent.f; rw [offB_is hst hoff]; rfl
    rw [e] at h
    exact event_step (hw b G hon hoff) (hrun b G w hon hoff h) (hK _ (Below.refl _ _)))
theorem st_put {oi : Oper} (r : Nat) (x : Ent) (hx : A[r]? = some x) (hxs : x.stored = some i) (hoi : ops[i]? = some oi) (hN : oi.dst = none) (hw : ∀ b G, Ons B O i b → Offs B O i b → Region.wanted oi (yielded ops (putSel a0 b (vals G L)).tmps) = true)
    (hL : (L.all fun e => !(e.1 == i)) = true) (hA : (A.all fun x => !(x.born == some i)) = true) (hAs : ((A.take r ++ A.drop (r + 1)).all fun x => !(x.stored == some i)) = true) (hbo : onB B O i x.born = true)
    (hrun : ∀ b G w, Ons B O i b → Offs B O i b → Row w (x.ad G) x.k x.n x.f0 x.t → ∃ w', (execOp (putSel a0 b (vals G L)).eval oi).run P w = .ok .skip w' ∧ Stored w w' (x.ad G) ∧ Row w' (x.ad G) x.k x.n x.f1 x.t) : StepAt P ops Q B O (RI wE a0 L A) i := by
  rintro b a w ⟨G, rfl, hB, hR, hD⟩ hb hon hoff
  have hxm := List.mem_of_getElem? hx
  have h0 := hR x hxm (onB_is hbo hon)
  have e0 : x.f b = x.f0 := by unfold Ent.f; rw [hxs]; exact if_neg (by rw [show isOn b false (some i) = b i from rfl, hb]; decide)
  rw [e0] at h0
  obtain ⟨w', hr1, hs, hr⟩ := hrun b G w hon hoff h0.2
  refine ⟨oi, hoi, fun K hK => ?_⟩
  rw [if_pos (hw b G hon hoff)]
  unfold Oper.wp
  rw [hr1, Oper.upon_skip]
  rw [hN]
  refine hK _ _ ⟨G, (putSel_same (by unfold vals; rw [List.all_map]; exact hL)).symm, hB.stored hs h0.1, fun z hz hbz => ?_, ?_⟩
  · have hzb := List.all_eq_true.1 hA z hz
    rw [Bool.not_eq_true'] at hzb
    rw [isOn_up hzb] at hbz
    obtain ⟨j, hj⟩ := List.getElem?_of_mem hz
    by_cases hjr : j = r
    · subst hjr
      rw [hx] at hj
      obtain rfl := Option.some.inj hj
      have e : x.f (up b i) = x.f1 := by unfold Ent.f; rw [hxs]; exact if_pos (up_self b i)
      rw [e]
      exact ⟨h0.1, hr⟩
    · have hm : z ∈ A.take r ++ A.drop (r + 1) := by
        rw [List.mem_append]
        by_cases hlt : j < r
        · left; exact List.mem_of_getElem? (i := j) (by rw [List.getElem?_take_of_lt hlt]; exact hj)
        · right; exact List.mem_of_getElem? (i := j - (r + 1)) (by rw [List.getElem?_drop]; rw [show r + 1 + (j - (r + 1)) = j by omega]; exact hj)
      have h2 := List.all_eq_true.1 hAs z hm
      rw [Bool.not_eq_true'] at h2
      have e : z.f (up b i) = z.f b := by unfold Ent.f; rw [isOn_up h2]
      rw [e]
      have hz0 := hR z hz hbz
      refine ⟨hz0.1, hz0.2.stored hs ?_⟩
      rw [List.pairwise_iff_getElem] at hD
      obtain ⟨hjl, hje⟩ := List.getElem?_eq_some_iff.1 hj
      obtain ⟨hrl, hre⟩ := List.getElem?_eq_some_iff.1 hx
      by_cases hlt : j < r
      · have := hD j r hjl hrl hlt (by rw [hje]; exact hbz) (by rw [hre]; exact onB_is hbo hon)
        rwa [hje, hre] at this
      · have := hD r j hrl hjl (by omega) (by rw [hre]; exact onB_is hbo hon) (by rw [hje]; exact hbz)
        rw [hje, hre] at this
        exact fun e => this e.symm
  · refine hD.imp_of_mem (fun {z y} hz hy h h1 h2 => ?_)
    have hz2 := List.all_eq_true.1 hA z hz
    have hy2 := List.all_eq_true.1 hA y hy
    rw [Bool.not_eq_true'] at hz2 hy2
    rw [isOn_up hz2] at h1
    rw [isOn_up hy2] at h2
    exact h h1 h2
theorem exec_move {o : Oper} {ev : Operand → Value} {w : World} {x : Operand} {v : Value} (ho : o.op = .move x ∨ o.op = .assign x) (hx : ev x = v) : (execOp ev o).run P w = .ok (.value v) w := by
  unfold execOp
  rcases ho with ho | ho <;> simp only [ho, hx, Sem.run_pure]
theorem exec_bin {o : Oper} {ev : Operand → Value} {w : World} {op : BinOp} {t u : TypeId} {x y : Operand} {a b v : Value} (ho : o.op = .binOp op t x y u) (hx : ev x = a) (hy : ev y = b) (h : (do eqGuard op t x y a b; binOp op t a b : Sem Value).run P w = .ok v w) : (execOp ev o).run P w = .ok (.value v) w := by
  unfold execOp
  simp only [ho, hx, hy]
  rw [Sem.run_bind, h]
  rfl
theorem exec_un {o : Oper} {ev : Operand → Value} {w : World} {op : UnOp} {t : TypeId} {x : Operand} {a v : Value} (ho : o.op = .unOp op t x) (hx : ev x = a) (h : (Op.unary op a).run P w = .ok v w) : (execOp ev o).run P w = .ok (.value v) w := by
  unfold execOp
  simp only [ho, hx]
  rw [Sem.run_bind, h]
  rfl
theorem exec_extract {o : Oper} {ev : Operand → Value} {w : World} {x : Operand} {n : Nat} {a v : Value} (ho : o.op = .extract x n) (hx : ev x = a) (h : (Instr.extract a n).run P w = .ok v w) : (execOp ev o).run P w = .ok (.value v) w := by
  unfold execOp
  simp only [ho, hx]
  rw [Sem.run_bind, h]
  rfl
theorem exec_pick {o : Oper} {ev : Operand → Value} {w : World} {c x y : Operand} {t : Bool} {v : Value} (ho : o.op = .pick c x y) (hc : ev c = .bool t) (hx : ev (if t then x else y) = v) : (execOp ev o).run P w = .ok (.value v) w := by
  unfold execOp
  simp only [ho, hc]
  cases t <;> simp_all [asBool]
theorem exec_indexAddr {o : Oper} {ev : Operand → Value} {w : World} {t : TypeId} {x y : Operand} {a b v : Value} (ho : o.op = .indexAddr t x y) (hx : ev x = a) (hy : ev y = b) (h : (Instr.indexAt t a b).run P w = .ok v w) : (execOp ev o).run P w = .ok (.value v) w := by
  unfold execOp
  simp only [ho, hx, hy]
  rw [Sem.run_bind, h]
  rfl
theorem exec_cell {o : Oper} {ev : Operand → Value} {w : World} {k : CK} {n g j : Nat} {f : Nat → SC} {t ty : TypeId} {x : Operand} {d : TypeDesc} (hr : Row w g k n f t) (hj : j < n) (hu : P.underlying ty = some d) (hd : (match d with | .struct _ | .array _ _ => false | _ => true) = true) (ho : o.op = .load ty x) (hx : ev x = .pointer (some ⟨g, j, none⟩)) :
    (execOp ev o).run P w = .ok (.value (mkc k (f j))) w := by
  have ha : (isAgg ty).run P w = .ok false w := by
    simp only [isAgg, Sem.run_bind, run_underlying hu, Result.andThen_ok]
    cases d <;> simp_all
  unfold execOp
  simp only [ho, hx, Instr.loadAt, Instr.sureAddr, Sem.run_bind, Sem.run_pure, Result.andThen_ok, loadVar, ha, Bool.false_eq_true, if_false, run_load, hr.cell j hj]
theorem exec_put1 {o : Oper} {ev : Operand → Value} {w : World} {k : CK} {n g j : Nat} {f : Nat → SC} {z : SC} {t ty : TypeId} {x y : Operand} (hr : Row w g k n f t) (hj : j < n) (hi : (P.info? ty).map (·.size) = some 1) (ho : o.op = .store ty x y) (hx : ev x = .pointer (some ⟨g, j, none⟩)) (hy : ev y = mkc k z) :
    ∃ w', (execOp ev o).run P w = .ok .skip w' ∧ Stored w w' g ∧ Row w' g k n (upd f j z) t := by
  obtain ⟨ie, hie, hs⟩ : ∃ ie, P.info? ty = some ie ∧ ie.size = 1 := by
    cases he : P.info? ty with
    | none => rw [he] at hi; cases hi
    | some ie => rw [he] at hi; exact ⟨ie, rfl, Option.some.inj hi⟩
  refine ⟨w.setCell ⟨g, j, none⟩ (mkc k z), ?_, ⟨fun q hq => heap_setCell_other _ _ _ _ hq, by simp [World.setCell], fun B W hB hb => hb.setCell hB _⟩, hr.set j z hj⟩
  unfold execOp
  simp only [ho, hx, hy]
  have hti : (typeInfo ty).run P w = .ok ie w := by simp [typeInfo, hie]
  have h1 : (Instr.storeAt ty (.pointer (some ⟨g, j, none⟩)) (mkc k z)).run P w = .ok () (w.setCell ⟨g, j, none⟩ (mkc k z)) := by
    have hsz : (mkc k z).cells.size = 1 := by cases z <;> rfl
    simp only [Instr.storeAt, Instr.sureAddr, Sem.run_bind, Sem.run_pure, Result.andThen_ok, storeVar, sizeOf, hti, hs, hsz, ne_eq, not_true_eq_false, if_false]
    have hcl : (mkc k z).cells.toList = [mkc k z] := by cases z <;> rfl
    rw [hcl]
    have := run_storeCells_cells (P := P) g j [mkc k z] 0 w (fun q hq => (by
      obtain rfl : q = 0 := (by simpa using hq)
      rw [Nat.add_zero, hr.cell j hj]; rfl)) (fun q hq => hr.fro _) (fun v hv => (by
      simp only [List.mem_singleton] at hv
      subst hv; exact mkc_one _ _))
    simpa [World.setCells] using this
  rw [Sem.run_bind, h1]
  rfl
theorem b_tmp {fn : Func} {R : Ending → World → Prop} {p : Tmp} {a : Act} {w : World} {v : Value} (h : fn.results = #[.tmp p]) (hd : a.defers = []) (hp : a.eval (.tmp p) = v) (hR : R (.returned v) w) : bodyPost P fn R .ret a w :=
  ⟨hd, v, by have hp' : a.tmps.getD p undef = v := hp; rw [← hp']; exact results_tmp h _ _ _, hR⟩
theorem exec_slice {o : Oper} {ev : Operand → Value} {w : World} {t : TypeId} {x : Operand} {lo hi mx : Option Operand} {a v : Value} {l h m : Option Value} (ho : o.op = .slice t x lo hi mx) (hx : ev x = a) (hl : lo.map ev = l) (hh : hi.map ev = h) (hm : mx.map ev = m) (hr : (Instr.sliceAt t a l h m).run P w = .ok v w) : (execOp ev o).run P w = .ok (.value v) w := by
  unfold execOp
  simp only [ho, hx, hl, hh, hm]
  rw [Sem.run_bind, hr]
  rfl
theorem exec_buildSlice {o : Oper} {ev : Operand → Value} {w w' : World} {t : TypeId} {n : Nat} {parts : Array (Nat × Operand)} {ps : Array (Nat × Value)} {v : Value} (ho : o.op = .buildSlice t n parts) (hx : (parts.map fun (i, x) => (i, ev x)) = ps) (h : (Instr.buildSlice t n ps).run P w = .ok v w') : (execOp ev o).run P w = .ok (.value v) w' := by
  unfold execOp
  simp only [ho, hx]
  rw [Sem.run_bind, h]
  rfl
theorem then_exit {K : Act → World → Prop} {a : Act} {w : World} {id : Nat} (h : Q (.exit id) a w) : Exit.then K Q (.exit id) a w := h
theorem inBlock_exit {a : Act} {w : World} {id : Nat} (h : Q .normal a w) : Exit.inBlock id Q (.exit id) a w := by unfold Exit.inBlock; simp only [if_true]; exact h
theorem inBlock_normal {a : Act} {w : World} {id : Nat} (h : Q .normal a w) : Exit.inBlock id Q .normal a w := h
end
theorem cell_lt {w : World} {a : Addr} {v : Value} (h : w.cell? a = some v) : a.block < w.heap.size := by
  unfold World.cell? at h
  cases e : w.heap[a.block]? with
  | none => rw [e] at h; simp at h
  | some o => exact (Array.getElem?_eq_some_iff.1 e).1
theorem bel_kept {w w' : World} (h : Below w.heap.size w w') : ∀ x v, w.cell? x = some v → w'.cell? x = some v := fun x v hc => (h.cell (cell_lt hc)).trans hc
def WX.cell? (e : WX) (x : Addr) : Option Value := if x.block ∈ e.X then none else e.w.cell? x
theorem Fr.kept {e : WX} {w : World} (h : Fr e w) {x : Addr} {v : Value} (hc : e.cell? x = some v) : w.cell? x = some v := by
  unfold WX.cell? at hc
  split at hc
  · cases hc
  · rename_i hx
    exact (World.cell?_of_block (h.block _ (cell_lt hc) hx)).trans hc
theorem exec_val {P : Program} {o : Oper} {ev : Operand → Value} {w : World} {ty : TypeId} {x : Operand} {ad : Addr} {v : Value} {d : TypeDesc} (hc : w.cell? ad = some v) (hu : P.underlying ty = some d) (hd : (match d with | .struct _ | .array _ _ => false | _ => true) = true) (ho : o.op = .load ty x) (hx : ev x = .pointer (some ad)) :
    (execOp ev o).run P w = .ok (.value v) w := by
  have ha : (isAgg ty).run P w = .ok false w := by
    simp only [isAgg, Sem.run_bind, run_underlying hu, Result.andThen_ok]
    cases d <;> simp_all
  unfold execOp
  simp only [ho, hx, Instr.loadAt, Instr.sureAddr, Sem.run_bind, Sem.run_pure, Result.andThen_ok, loadVar, ha, Bool.false_eq_true, if_false, run_load, hc]
section
variable {P : Program} {ops : Array Oper} {Q : Exit → Act → World → Prop} {B O : List Nat} {wE : WX} {a0 : Act} {L : List (Nat × Tmp × SV)} {A : List Ent} {i : Nat}
theorem st_at1 {N : Tmp} {oi : Oper} (k : Nat) (ad : Addr) (v : Value) {ty : TypeId} {p : Operand} {d : TypeDesc} (hoi : ops[i]? = some oi) (hN : oi.dst = some N) (ho : oi.op = .load ty p) (hw : ∀ b G, Ons B O i b → Offs B O i b → Region.wanted oi (yielded ops (putSel a0 b (vals G L)).tmps) = true)
    (hLo : LOk L) (hL : L[k]? = some (i, N, .val v)) (hA : (A.all fun x => !(x.born == some i) && !(x.stored == some i)) = true) (hu : P.underlying ty = some d) (hdd : (match d with | .struct _ | .array _ _ => false | _ => true) = true)
    (hT : wE.cell? ad = some v) (hp : ∀ b G, Ons B O i b → Offs B O i b → (putSel a0 b (vals G L)).eval p = .pointer (some ad)) : StepAt P ops Q B O (RI wE a0 L A) i :=
  st_keep k (.val v) hoi hN hLo hL hA (fun b G w K hB hon hoff hR hK =>
    event_step (hw b G hon hoff) (exec_val (hB.kept hT) hu hdd ho (hp b G hon hoff)) (hK _ (Below.refl _ _)))
end
section
variable {P : Program} {t : TypeId} {k : IntKind} {r : Bool}
theorem rb_lss {x y : Int} (h : decide (x < y) = r) (w : World) (p q : Operand) : (do eqGuard .lss t p q (.int k x) (.int k y); binOp .lss t (.int k x) (.int k y) : Sem Value).run P w = .ok (.bool r) w := by subst h; go_simp
theorem rb_gtr {x y : Int} (h : decide (y < x) = r) (w : World) (p q : Operand) : (do eqGuard .gtr t p q (.int k x) (.int k y); binOp .gtr t (.int k x) (.int k y) : Sem Value).run P w = .ok (.bool r) w := by subst h; go_simp
theorem rb_geq {x y : Int} (h : decide (y ≤ x) = r) (w : World) (p q : Operand) : (do eqGuard .geq t p q (.int k x) (.int k y); binOp .geq t (.int k x) (.int k y) : Sem Value).run P w = .ok (.bool r) w := by subst h; go_simp
theorem rb_eql {x y : Int} (h : (x == y) = r) (w : World) (p q : Operand) : (do eqGuard .eql t p q (.int k x) (.int k y); binOp .eql t (.int k x) (.int k y) : Sem Value).run P w = .ok (.bool r) w := by subst h; go_simp
theorem rb_neq {x y : Int} (h : (x != y) = r) (w : World) (p q : Operand) : (do eqGuard .neq t p q (.int k x) (.int k y); binOp .neq t (.int k x) (.int k y) : Sem Value).run P w = .ok (.bool r) w := by subst h; go_simp
theorem guard_string {op : BinOp} {x y : ByteArray} (p q : Operand) : eqGuard op t p q (.string x) (.string y) = pure () := by unfold eqGuard; split <;> rfl
abbrev bl (s : ByteArray) : List UInt8 := s.data.toList
theorem bl_inj {a b : ByteArray} (h : bl a = bl b) : a = b := by
  cases a with | mk a => cases b with | mk b => exact congrArg ByteArray.mk (Array.toList_inj.1 h)
theorem lists_eq {x y : ByteArray} : (x.toList == y.toList) = decide (x = y) := by
  rw [Bool.eq_iff_iff, beq_iff_eq, decide_eq_true_iff, Lib.toList_data, Lib.toList_data]
  exact ⟨fun h => bl_inj h, fun h => by rw [h]⟩
theorem rb_seql {x y : ByteArray} (h : decide (x = y) = r) (w : World) (p q : Operand) : (do eqGuard .eql t p q (.string x) (.string y); binOp .eql t (.string x) (.string y) : Sem Value).run P w = .ok (.bool r) w := by
  subst h; rw [guard_string, binOp_string_eql, lists_eq]; rfl
theorem rb_sneq {x y : ByteArray} (h : (!decide (x = y)) = r) (w : World) (p q : Operand) : (do eqGuard .neq t p q (.string x) (.string y); binOp .neq t (.string x) (.string y) : Sem Value).run P w = .ok (.bool r) w := by
  subst h; rw [guard_string, binOp_string_neq, lists_eq]; rfl
theorem rb_add {x y z : Int} (h : k.wrap (x + y) = z) (w : World) (p q : Operand) : (do eqGuard .add t p q (.int k x) (.int k y); binOp .add t (.int k x) (.int k y) : Sem Value).run P w = .ok (.int k z) w := by subst h; go_simp
theorem rb_sub {x y z : Int} (h : k.wrap (x - y) = z) (w : World) (p q : Operand) : (do eqGuard .sub t p q (.int k x) (.int k y); binOp .sub t (.int k x) (.int k y) : Sem Value).run P w = .ok (.int k z) w := by subst h; go_simp
theorem exec_lenL {o : Oper} {ev : Operand → Value} {w : World} {x : Operand} {ty e : TypeId} {a : Option Addr} {n c : Nat} (hu : P.underlying ty = some (.slice e)) (ho : o.op = .call { callee := .builtin .len, args := #[x], argTypes := #[ty] }) (hx : ev x = .slice a n c) : (execOp ev o).run P w = .ok (.value (.int .i64 (n : Int))) w := by
  unfold execOp
  simp only [ho, resolve, invoke, builtin, Builtin.len_, Sem.run_bind, Sem.run_pure, Result.andThen_ok, List.map_toArray, List.map_cons, List.map_nil, hx, run_underlying hu]
  simp [run_underlying hu]
  rfl
theorem exec_lenS {o : Oper} {ev : Operand → Value} {w : World} {x : Operand} {ty : TypeId} {s : ByteArray} (hu : P.underlying ty = some .string) (ho : o.op = .call { callee := .builtin .len, args := #[x], argTypes := #[ty] }) (hx : ev x = .string s) : (execOp ev o).run P w = .ok (.value (.int .i64 (s.size : Int))) w := by
  unfold execOp
  simp only [ho, resolve, invoke, builtin, Builtin.len_, Sem.run_bind, Sem.run_pure, Result.andThen_ok, List.map_toArray, List.map_cons, List.map_nil, hx, run_underlying hu]
  simp [run_underlying hu]
  rfl
theorem index_sl {ty e : TypeId} {xl : Option Addr} {a : Addr} {n c m : Nat} {i : Nat} (hu : P.underlying ty = some (.slice e)) (hm : (P.info? e).map (·.size) = some m) (hx : xl = some a) (hi : i < n) (w : World) : (Instr.indexAt ty (.slice xl n c) (.int .i64 (i : Int))).run P w = .ok (.pointer (some (a.add (i * m)))) w := by
  subst hx
  obtain ⟨ie, hie, hs⟩ : ∃ ie, P.info? e = some ie ∧ ie.size = m := by
    cases he : P.info? e with
    | none => rw [he] at hm; cases hm
    | some ie => rw [he] at hm; exact ⟨ie, rfl, Option.some.inj hm⟩
  have hti : (typeInfo e).run P w = .ok ie w := by simp [typeInfo, hie]
  have h1 : (0 : Int) ≤ (i : Int) := by omega
  have h2 : (i : Int) < (n : Int) := by omega
  have h3 : (i : Int).toNat = i := by omega
  have hz : (Go.sizeOf e).run P w = .ok m w := by simp [Go.sizeOf, hti, hs]
  go_simp
theorem ru_not {x : Bool} (w : World) : (Op.unary .not (.bool x)).run P w = .ok (.bool (!x)) w := by go_simp
end
def lsc (l : List SC) (j : Nat) : SC := l.getD j (.b false)
section
variable {P : Program} {ops : Array Oper} {Q : Exit → Act → World → Prop} {B O : List Nat} {wE : WX} {a0 : Act} {L : List (Nat × Tmp × SV)} {A : List Ent} {i : Nat}
theorem st_callRB {N : Tmp} {oi : Oper} (k r : Nat) (x : Ent) (v : SV) {f : FuncId} {fn : Func} {asx : Array Operand} {ts : Array TypeId} (args : (Nat → Nat) → Array Value) (hx : A[r]? = some x) (hoi : ops[i]? = some oi) (hN : oi.dst = some N) (hop : oi.op = .call { callee := .value (.func f), args := asx, argTypes := ts })
    (hw : ∀ b G, Ons B O i b → Offs B O i b → Region.wanted oi (yielded ops (putSel a0 b (vals G L)).tmps) = true) (hLo : LOk L) (hL : L[k]? = some (i, N, v)) (hA : (A.all fun x => !(x.born == some i) && !(x.stored == some i)) = true)
    (hbo : onB B O i x.born = true) (hst : offB B O i x.stored = true) (hf : P.funcs[f]? = some fn) (hname : (fn.name == "runtime.NumGoroutine") = false) (hbd : fn.body.isSome = true) (hargs : ∀ b G, Ons B O i b → Offs B O i b → asx.map (putSel a0 b (vals G L)).eval = args G)
    (hc : ∀ G w, Fr wE w → Row w (x.ad G) x.k x.n x.f0 x.t → Calls P f (args G) w fun e w' => e = .returned (v.at G) ∧ Below w.heap.size w w') : StepAt P ops Q B O (RI wE a0 L A) i :=
  st_keep k v hoi hN hLo hL hA (fun b G w K hB hon hoff hR hK => by
    have h := (hR x (List.mem_of_getElem? hx) (onB_is hbo hon)).2
    have e : x.f b = x.f0 := by unfold Ent.f; rw [offB_is hst hoff]; rfl
    rw [e] at h
    exact goes_ hf hname hbd (args G) (hw b G hon hoff) rfl hop (hargs b G hon hoff) ((hc G w hB h).mono (by
      rintro e w' ⟨rfl, hb⟩
      exact ⟨_, rfl, hK _ hb⟩)))
theorem inBlock_ret' {a : Act} {w : World} {id : Nat} (h : Q .ret a w) : Exit.inBlock id Q .ret a w := h
theorem inBlock_other {a : Act} {w : World} {id id' : Nat} (hn : id' ≠ id) (h : Q (.exit id') a w) : Exit.inBlock id Q (.exit id') a w := by unfold Exit.inBlock; simp only [if_neg hn]; exact h
end
theorem sl_keep {a : Act} {sz : Nat} {S S' : List (Tmp × Value)} (h : Sl a sz S) (is : List Nat) (he : (is.map fun i => S[i]?) = S'.map some) : Sl a sz S' := by
  refine ⟨h.1, h.2.1, fun e hm => ?_⟩
  have h1 : some e ∈ S'.map some := List.mem_map.2 ⟨e, hm, rfl⟩
  rw [← he] at h1
  obtain ⟨i, _, h2⟩ := List.mem_map.1 h1
  exact h.2.2 e (List.mem_of_getElem? h2)
theorem held_keep {wE : WX} {w : World} {R R' : List RowD} (h : Held wE w R) (n : Nat) (he : R.take n = R') : Held wE w R' := by
  subst he
  refine ⟨h.1, fun r hr => h.2.1 r (List.mem_of_mem_take hr), ?_⟩
  exact h.2.2.sublist (List.Sublist.map _ (List.take_sublist n R))
section
variable {P : Program} {ops : Array Oper} {Q : Exit → Act → World → Prop} {B : List Nat} {wE : WX} {a0 : Act} {L : List (Nat × Tmp × SV)} {A : List Ent} {i : Nat}
def partI (p k : Nat) : Nat → Bool := fun j => decide (p ≤ j) && decide (j < k)
theorem part_list (B : List Nat) (I : (Nat → Bool) → Act → World → Prop) (p q : Nat) (hs : ∀ i ∈ List.range' p (q - p), StepAt P ops Q B (List.range' p (q - p)) I i)
    (hB : ∀ i j, (B.getD i 0).testBit j = true → j < i) (hend : ∀ a w, I (partI p q) a w → wpList P ops Q (ops.toList.drop q) a w) :
    ∀ (m k : Nat) (a : Act) (w : World), k + m = q → p ≤ k → q ≤ ops.size → I (partI p k) a w → wpList P ops Q (ops.toList.drop k) a w
  | 0, k, a, w, hk, _, _, hI => by
    have e2 : k = q := by omega
    subst e2
    exact hend a w hI
  | m + 1, k, a, w, hk, hp, hq, hI => by
    have hlt : k < ops.toList.length := by simp; omega
    rw [List.drop_eq_getElem_cons hlt]
    obtain ⟨oi, hoi, h⟩ := hs k (List.mem_range'_1.2 ⟨hp, by omega⟩) _ a w hI (by simp [partI]) (fun j hj => by
      rw [Bool.and_eq_true] at hj
      have h1 := hB k j hj.2
      have h2 := List.mem_range'_1.1 (by simpa using hj.1)
      simp [partI]; omega) (fun d hd => by
      rw [Bool.and_eq_true] at hd
      have := hB d k hd.2
      simp [partI]; omega)
    have e : ops.toList[k] = oi := by
      have h1 := List.getElem?_eq_getElem hlt
      rw [Array.getElem?_toList, hoi] at h1
      exact (Option.some.inj h1).symm
    rw [e]
    refine wpList_step (fun K hK => h K (fun a' w' hI' => hK a' w' (part_list B I p q hs hB hend m (k + 1) a' w' (by omega) (by omega) hq ?_)))
    have e2 : partI p (k + 1) = up (partI p k) k := by
      funext j
      unfold up partI
      split
      · subst j; simp [hp]
      · rename_i hne
        have : (j < k + 1) = (j < k) := by apply propext; omega
        simp only [this]
    rw [e2]
    exact hI'
theorem part_ {w : World} {R : List RowD} {n sz : Nat} {S : List (Tmp × Value)} (p q : Nat) (B : List Nat) (S' : List (Tmp × SV)) (L : List (Nat × Tmp × SV)) (A : List Ent) (hn : ops.size = n) (hpq : (Nat.ble p q && Nat.ble q n) = true) (hB : lowB B n = true)
    (hH : Held wE w R) (hR : (A.filter fun x => x.born == none).map Ent.row0 = R) (hA : (A.all fun x => (match x.born with | none => true | some j => (List.range' p (q - p)).contains j) && (match x.stored with | none => true | some j => (List.range' p (q - p)).contains j)) = true) (hLo : LOk L) (hL : (L.all fun e => (List.range' p (q - p)).contains e.1 && Nat.ble (e.2.1 + 1) sz) = true) (hS : Sl a0 sz S) (hS' : SlOk L S S')
    (hs : ∀ i ∈ List.range' p (q - p), StepAt P ops Q B (List.range' p (q - p)) (RI wE a0 L A) i) (hend : ∀ G a' w', Sl a' sz (S'.map fun e => (e.1, e.2.at G)) → Held wE w' (A.map fun x => x.row G) → wpList P ops Q (ops.toList.drop q) a' w') : wpList P ops Q (ops.toList.drop p) a0 w := by
  subst hn
  rw [Bool.and_eq_true, Nat.ble_eq, Nat.ble_eq] at hpq
  refine part_list (P := P) (Q := Q) (ops := ops) B (RI wE a0 L A) p q hs (fun i j hj => lowB_is hB i j hj) (fun a w hI => by
    obtain ⟨G, h1, h2⟩ := hI.fin (O := List.range' p (q - p)) (fun j hj => by
      have := List.mem_range'_1.1 (by simpa using hj)
      simp [partI]; omega) hA hLo hL hS hS'
    exact hend G a w h1 h2) (q - p) p a0 w (by omega) (Nat.le_refl _) hpq.2 (by
      have e : partI p p = fun _ => false := by
        funext j
        unfold partI
        by_cases h : p ≤ j
        · simp; try (intro _; exact h)
        · simp; try (intro q; exact absurd q h)
      rw [e]
      exact RI.start hH hR)
theorem whole_ {id : Nat} {a : Act} {w : World} (h : wpList P ops Q (ops.toList.drop 0) a w) : (Code.region id ops false).wp P Q a w := wp_region_list h
theorem end_ {n : Nat} {a : Act} {w : World} (hn : ops.size = n) (h : Q .normal a w) : wpList P ops Q (ops.toList.drop n) a w := by
  subst hn
  rw [List.drop_eq_nil_iff.2 (by simp)]
  exact h
theorem Sl.put {a : Act} {sz : Nat} {S S' : List (Tmp × Value)} {N : Tmp} {v : Value} (h : Sl a sz S) (hN : Nat.ble (N + 1) sz = true) (he : S' = (N, v) :: S.filter fun e => !(e.1 == N)) : Sl (a.put (some N) v) sz S' := by
  subst he
  have hN := Nat.le_of_ble_eq_true hN
  have hx : N < a.tmps.size := Nat.lt_of_lt_of_le (Nat.lt_succ_self N) (Nat.le_trans hN (Nat.le_of_eq h.1.symm))
  refine ⟨by show (a.tmps.setIfInBounds N v).size = sz; rw [Array.size_setIfInBounds]; exact h.1, h.2.1, fun e he => ?_⟩
  rcases List.mem_cons.1 he with rfl | he
  · show (a.tmps.setIfInBounds N v).getD N undef = v
    rw [Array.getD_eq_getD_getElem?, Array.getElem?_setIfInBounds_self_of_lt hx]; rfl
  · obtain ⟨h1, h2⟩ := List.mem_filter.1 he
    have hne : e.1 ≠ N := by simpa using h2
    have h3 := h.2.2 e h1
    show (a.tmps.setIfInBounds N v).getD e.1 undef = e.2
    rw [Array.getD_eq_getD_getElem?, Array.getElem?_setIfInBounds_ne (fun q => hne q.symm), ← Array.getD_eq_getD_getElem?]
    exact h3
theorem drop_at {i : Nat} {oi : Oper} (h : ops[i]? = some oi) : ops.toList.drop i = oi :: ops.toList.drop (i + 1) := by
  have hlt : i < ops.toList.length := by
    rw [Array.length_toList]; exact (Array.getElem?_eq_some_iff.1 h).1
  rw [List.drop_eq_getElem_cons hlt]
  congr 1
  have h1 := List.getElem?_eq_getElem hlt
  rw [Array.getElem?_toList, h] at h1
  exact (Option.some.inj h1).symm
theorem cut_call {N : Tmp} {sz : Nat} {S : List (Tmp × Value)} {a : Act} {w : World} {oi : Oper} {f : FuncId} {fn : Func} {asx : Array Operand} {ts : Array TypeId} {args : Array Value} (R0 : Ending → World → Prop) (hoi : ops[i]? = some oi) (hN : oi.dst = some N) (hop : oi.op = .call { callee := .value (.func f), args := asx, argTypes := ts })
    (hw : Region.wanted oi (yielded ops a.tmps) = true) (hf : P.funcs[f]? = some fn) (hname : (fn.name == "runtime.NumGoroutine") = false) (hbd : fn.body.isSome = true) (hargs : asx.map a.eval = args) (hc : Calls P f args w R0) (hS : Sl a sz S) (hNs : Nat.ble (N + 1) sz = true)
    (h : ∀ e w', R0 e w' → ∃ v, e = .returned v ∧ ∀ a', Sl a' sz ((N, v) :: S.filter fun e => !(e.1 == N)) → wpList P ops Q (ops.toList.drop (i + 1)) a' w') : wpList P ops Q (ops.toList.drop i) a w := by
  rw [drop_at hoi]
  refine wpList_step (fun K hK => ?_)
  rw [hN]
  refine goes_ hf hname hbd args hw hN hop hargs (hc.mono fun e w' he => ?_)
  obtain ⟨v, h1, h2⟩ := h e w' he
  exact ⟨v, h1, hK _ _ (h2 _ (hS.put hNs rfl))⟩
theorem cut_run {N : Tmp} {sz : Nat} {S : List (Tmp × Value)} {a : Act} {w w' : World} {oi : Oper} {v : Value} (hoi : ops[i]? = some oi) (hN : oi.dst = some N) (hw : Region.wanted oi (yielded ops a.tmps) = true) (hrun : (execOp a.eval oi).run P w = .ok (.value v) w') (hS : Sl a sz S) (hNs : Nat.ble (N + 1) sz = true)
    (h : ∀ a', Sl a' sz ((N, v) :: S.filter fun e => !(e.1 == N)) → wpList P ops Q (ops.toList.drop (i + 1)) a' w') : wpList P ops Q (ops.toList.drop i) a w := by
  rw [drop_at hoi]
  refine wpList_step (fun K hK => ?_)
  rw [if_pos hw]
  unfold Oper.wp
  rw [hrun]
  show K (a.put oi.dst v) w'
  rw [hN]
  exact hK _ _ (h _ (hS.put hNs rfl))
end
theorem Held.call {wE : WX} {w w' : World} {R : List RowD} (h : Held wE w R) (hb : Below w.heap.size w w') : Held wE w' R :=
  ⟨h.1.call hb, fun r hr => ⟨(h.2.1 r hr).1, (h.2.1 r hr).2.below hb (h.2.1 r hr).2.lt⟩, h.2.2⟩
theorem row_at {w : World} {g n : Nat} {f : Nat → SC} {t : TypeId} (h : Row w g () n f t) : ∀ j, j < n → w.cell? ((⟨g, 0, none⟩ : Addr).add j) = some (mkc () (f j)) := fun j hj => by
  rw [add_at, Nat.zero_add]; exact h.cell j hj
theorem Fr.grown {e : WX} {w w' : World} {row : Option Nat} (h : Fr e w) (hg : w.grownBy w' row) (hr : ∀ k, row = some k → e.fresh k) : Fr e w' :=
  ⟨hg.os.trans h.os, hg.tape.trans h.tape, hg.output.trans h.output, Nat.le_trans h.size hg.size, fun k hk hx => (hg.block k (Nat.lt_of_lt_of_le hk h.size) fun q => by
    rcases hr k q.symm with hf | hf
    · omega
    · exact hx hf).trans (h.block k hk hx)⟩
theorem Held.grown {wE : WX} {w w' : World} {R : List RowD} {row : Option Nat} (h : Held wE w R) (hg : w.grownBy w' row) (hr : ∀ k, row = some k → wE.fresh k) (hd : ∀ r ∈ R, row ≠ some r.g) : Held wE w' R :=
  ⟨h.1.grown hg hr, fun r hm => ⟨(h.2.1 r hm).1, (hg.block _ (h.2.1 r hm).2.lt fun e => hd r hm e.symm).trans (h.2.1 r hm).2⟩, h.2.2⟩
section
variable {P : Program} {w : World}
theorem info_parts2 {e : TypeId} {z : Value} {size bytes : Nat} (h : (P.info? e).map (fun i => (i.zero, i.size, i.bytes)) = some (some z, size, bytes)) : ∃ i, P.info? e = some i ∧ i.zero = some z ∧ i.size = size ∧ i.bytes = bytes := by
  cases he : P.info? e with
  | none => rw [he] at h; cases h
  | some i =>
    rw [he] at h
    injection h with h
    obtain ⟨h1, h2⟩ := Prod.mk.inj h
    obtain ⟨h2, h3⟩ := Prod.mk.inj h2
    exact ⟨i, rfl, h1, h2, h3⟩
theorem run_append_G (base : Nat) {t ty e : TypeId} {z : Value} {size bytes : Nat} (ht : P.underlying t = some (.slice e)) (hinf : (P.info? e).map (fun i => (i.zero, i.size, i.bytes)) = some (some z, size, bytes)) (hzs : z.cells.size = size)
    {v : Value} {n : Nat} {xs : List Value} (hown : w.ownsRow base e size v n xs) {x : Value} {m : Nat} {news : List Value} (hsrc : Src P size t x m news w)
    (h63 : n + m ≤ maxLen) (hbytes : (n + m) * bytes ≤ 140737488355328) (hbase : base ≤ w.heap.size) :
    ∃ v' w', (Builtin.append_ #[t, t] ty #[v, x]).run P w = .ok v' w' ∧ w'.ownsRow base e size v' (n + m) (xs ++ news) ∧ w.grownBy w' v.ownBlock ∧ (v'.ownBlock = v.ownBlock ∨ v'.ownBlock = some w.heap.size) := by
  obtain ⟨i, hi, hz, rfl, rfl⟩ := info_parts2 hinf
  have hl := hsrc.newsLen
  have hsmall : n + m ≤ 9223372036854775807 := by simp only [maxLen] at h63; omega
  have hlen : (xs ++ news).length = (n + m) * i.size := by rw [List.length_append, hown.1, hl, Nat.add_mul]
  have grown : ∀ (old : Nat), old < n + m → ∀ (row : Option Nat),
      (w.drew.alloc (.cells ((xs ++ news).toArray ++ Builtin.zeroCells z.cells (grownCap w (n + m) old e - (n + m))) e)).ownsRow base e i.size
        (.slice (some ⟨w.heap.size, 0, none⟩) (n + m) (grownCap w (n + m) old e)) (n + m) (xs ++ news) ∧
      w.grownBy (w.drew.alloc (.cells ((xs ++ news).toArray ++ Builtin.zeroCells z.cells (grownCap w (n + m) old e - (n + m))) e)) row := by
    intro old ho row
    have hge := grownCap_ge w (n + m) old e
    have hcm : grownCap w (n + m) old e ≤ maxLen := grownCap_le_maxLen w (n + m) old e h63
    refine ⟨⟨hlen, .inr ⟨w.heap.size, _, _, rfl, hbase, heap_alloc_new w.drew _, hge, hcm, ?_, ?_⟩⟩, ⟨rfl, rfl, rfl, by simp, fun k hk _ => Below.heap_alloc w.drew _ k hk⟩⟩
    · simp only [Array.size_append, List.size_toArray, size_zeroCells, hzs, hlen, ← Nat.add_mul]
      congr 1
      omega
    · simp only [Array.toList_append]
      rw [← hlen]
      exact List.take_left
  have hinfo := hsrc
  rcases hown.2 with ⟨rfl, rfl⟩ | ⟨g, cap, cur, rfl, hbg, hg, hnc, hcm, hcs, htake⟩
  · have hx : xs = [] := List.eq_nil_of_length_eq_zero (by simpa using hown.1)
    subst hx
    by_cases hm : m = 0
    · subst hm
      have hn : news = [] := List.eq_nil_of_length_eq_zero (by simpa using hl)
      subst hn
      refine ⟨.slice none 0 0, w, ?_, World.ownsRow_nil w base e i.size, ⟨rfl, rfl, rfl, Nat.le_refl _, fun _ _ _ => rfl⟩, .inl rfl⟩
      rcases hsrc.kind with ⟨e', hk⟩ | hk
      · simp [Builtin.append_, run_underlying ht, sizeOf, typeInfo, hi, hsrc.len, hsrc.cells]
      · simp [Builtin.append_, run_underlying ht, run_underlying hk, sizeOf, typeInfo, hi, hsrc.len, hsrc.cells]
    · have hr := run_append_grow_src (P := P) w t t ty e i z ht hi hz none 0 0 [] (run_firstCells_none w.drew i.size 0 0 0) _ m _ hsrc (by omega) (by omega) (growslice_fits (by omega) hbytes)
      have hgr := grown 0 (by omega) (Value.ownBlock (.slice none 0 0))
      exact ⟨_, _, hr, hgr.1, hgr.2, .inr rfl⟩
  · by_cases hroom : n + m ≤ cap
    · have hsz : cur.size = cap * i.size := hcs
      have hle : n * i.size + news.length ≤ cur.size := by rw [hl, hcs, ← Nat.add_mul]; exact Nat.mul_le_mul_right _ hroom
      have hr := run_append_room_src (P := P) w t t ty e i ht hi g 0 n cap _ m _ hsrc hroom (by
        intro j hj
        rw [Nat.zero_add, cell_of_row w g _ cur _ _ hg, Array.getElem?_eq_getElem (by omega)]; rfl) (by intro j hj; exact frozen_of_row w g _ cur _ hg)
      rw [Nat.zero_add] at hr
      refine ⟨_, _, hr, ⟨hlen, .inr ⟨g, cap, _, rfl, hbg, setCells_row _ _ w cur hg, hroom, hcm, by rw [putA_size]; exact hcs, ?_⟩⟩, ⟨?_, ?_, ?_, by rw [setCells_size]; exact Nat.le_refl _, fun b _ hb2 => setCells_other (fun h => hb2 (by rw [h]; rfl)) _ _ w⟩, .inl rfl⟩
      · apply List.ext_getElem?
        intro j
        have hxl : xs.length = n * i.size := hown.1
        rw [List.getElem?_take, Array.getElem?_toList, putA_get _ _ _ _ hle]
        by_cases hj : j < (n + m) * i.size
        · rw [if_pos hj]
          by_cases hjn : j < n * i.size
          · rw [if_neg (by omega), List.getElem?_append_left (by omega), ← htake, List.getElem?_take, if_pos hjn, Array.getElem?_toList]
          · rw [if_pos (by rw [hl]; rw [Nat.add_mul] at hj; omega), List.getElem?_append_right (by omega), hxl]
        · rw [if_neg hj, List.getElem?_eq_none (by omega)]
      · exact (bel_setCells (Nat.le_refl g) _ _ w (Below.refl g w)).os
      · exact (bel_setCells (Nat.le_refl g) _ _ w (Below.refl g w)).tape
      · exact (bel_setCells (Nat.le_refl g) _ _ w (Below.refl g w)).output
    · have holds : ∀ j u, xs[j]? = some u → w.cell? ((⟨g, 0, none⟩ : Addr).add j) = some u := hown.cells (g := g) rfl
      have hr := run_append_grow_src (P := P) w t t ty e i z ht hi hz (some ⟨g, 0, none⟩) n cap xs (run_firstCells_some w.drew i.size n ⟨g, 0, none⟩ n cap xs hown.1 (by simpa using holds)) _ m _ hsrc (by omega) (by omega) (growslice_fits (by omega) hbytes)
      have hgr := grown cap (by omega) (Value.ownBlock (.slice (some ⟨g, 0, none⟩) n cap))
      exact ⟨_, _, hr, hgr.1, hgr.2, .inr rfl⟩
end
theorem src_of {P : Program} {w : World} {t e : TypeId} {size : Nat} {a : Option Addr} {n c : Nat} {news : List Value} (ht : P.underlying t = some (.slice e)) (hl : news.length = n * size) (h1 : ∀ u ∈ news, u.oneCell' = true) (hc : ∀ x, a = some x → ∀ j u, news[j]? = some u → w.cell? (x.add j) = some u) (h0 : a = none → n = 0) : Src P size t (.slice a n c) n news w := by
  cases a with
  | none =>
    obtain rfl := h0 rfl
    have : news = [] := List.eq_nil_of_length_eq_zero (by simpa using hl)
    subst this
    exact Src.ofNil w ht c
  | some x => exact Src.ofSlice w ht x n c news hl (hc x rfl) h1
theorem exec_append {P : Program} {o : Oper} {ev : Operand → Value} {w w' : World} {s x : Operand} {t : TypeId} {u v v' : Value} (ho : o.op = .call { callee := .builtin .append, args := #[s, x], argTypes := #[t, t] }) (hs : ev s = u) (hx : ev x = v) (h : (Builtin.append_ #[t, t] o.type #[u, v]).run P w = .ok v' w') : (execOp ev o).run P w = .ok (.value v') w' := by
  unfold execOp
  simp only [ho, resolve, invoke, builtin, Sem.run_bind, Sem.run_pure, Result.andThen_ok, List.map_toArray, List.map_cons, List.map_nil, hs, hx, h]
structure OwnR (base : Nat) (w : World) (e : TypeId) (size : Nat) (gs : List Nat) (v : Value) (n : Nat) (xs : List Value) : Prop where
  own : w.ownsRow base e size v n xs
  apart : ∀ g ∈ gs, v.ownBlock ≠ some g
theorem grown_of_below {w w' : World} (h : Below w.heap.size w w') : w.grownBy w' none := ⟨h.os, h.tape, h.output, h.size, fun k hk _ => h.block k hk⟩
section
variable {base : Nat} {w w' : World} {e : TypeId} {size : Nat} {gs : List Nat} {v : Value} {n : Nat} {xs : List Value}
theorem OwnR.nil : OwnR base w e size gs (.slice none 0 0) 0 [] := ⟨World.ownsRow_nil w base e size, fun g _ h => by cases h⟩
theorem OwnR.below (h : OwnR base w e size gs v n xs) (hb : Below w.heap.size w w') : OwnR base w' e size gs v n xs :=
  ⟨h.own.kept (grown_of_below hb) (by cases v.ownBlock with | none => exact .inl rfl | some b => exact .inr (by simp)), h.apart⟩
theorem OwnR.slice (h : OwnR base w e size gs v n xs) : ∃ oa c, v = .slice oa n c ∧ (oa = none → n = 0) ∧ ∀ x, oa = some x → ∀ j u, xs[j]? = some u → w.cell? (x.add j) = some u := by
  have hc := fun g hg => h.own.cells (g := g) hg
  rcases h.own.2 with ⟨rfl, rfl⟩ | ⟨g, cap, cur, rfl, _⟩
  · exact ⟨none, 0, rfl, (fun _ => rfl), (fun x hx => by cases hx)⟩
  · exact ⟨some ⟨g, 0, none⟩, cap, rfl, (fun hx => by cases hx), (fun x hx => by injection hx with hx; subst hx; exact hc g rfl)⟩
theorem OwnR.grow (h : OwnR base w e size gs v n xs) {m : Nat} {news : List Value} {v' : Value} (ho : w'.ownsRow base e size v' m news) (hv : v'.ownBlock = v.ownBlock ∨ v'.ownBlock = some w.heap.size) (hg : ∀ g ∈ gs, g < w.heap.size) : OwnR base w' e size gs v' m news :=
  ⟨ho, fun g hm => by
    rcases hv with hv | hv
    · rw [hv]; exact h.apart g hm
    · rw [hv]; intro q; injection q with q; have := hg g hm; omega⟩
end
def StrsAt (w : World) (oa : Option Addr) (n : Nat) (K : Nat → ByteArray) : Prop := ∀ i, i < n → ∃ x, oa = some x ∧ w.cell? (x.add (i * 1)) = some (.string (K i))
theorem StrsAt.below {w w' : World} {oa : Option Addr} {n : Nat} {K : Nat → ByteArray} (h : StrsAt w oa n K) (hb : Below w.heap.size w w') : StrsAt w' oa n K := fun i hi => by
  obtain ⟨x, hx, hc⟩ := h i hi
  exact ⟨x, hx, bel_kept hb _ _ hc⟩
theorem StrsAt.row {w : World} {g n : Nat} {f : Nat → SC} {t : TypeId} {K : Nat → ByteArray} (h : Row w g () n f t) (hk : ∀ i, i < n → f i = .s (K i)) : StrsAt w (some ⟨g, 0, none⟩) n K := fun i hi => ⟨_, rfl, by
  have := row_at h i hi
  rw [hk i hi] at this
  rw [Nat.mul_one]; exact this⟩
theorem StrsAt.own {base : Nat} {w : World} {e : TypeId} {gs : List Nat} {oa : Option Addr} {c n : Nat} {l : List ByteArray} (h : OwnR base w e 1 gs (.slice oa n c) n (l.map Value.string)) : StrsAt w oa n fun i => l.getD i ByteArray.empty := fun i hi => by
  obtain ⟨oa', c', he, h0, hc⟩ := h.slice
  injection he with h1 h2 h3; subst h1
  cases oa with
  | none => have := h0 rfl; omega
  | some x =>
    refine ⟨x, rfl, ?_⟩
    have hl : l.length = n := by have := h.own.1; rw [List.length_map] at this; omega
    refine (hc x rfl (i * 1) (.string (l.getD i ByteArray.empty)) ?_)
    rw [Nat.mul_one, List.getElem?_map, List.getElem?_eq_getElem (by omega), Option.map_some, List.getD_eq_getElem?_getD, List.getElem?_eq_getElem (by omega)]; rfl
section
variable {P : Program} {ops : Array Oper} {Q : Exit → Act → World → Prop} {B O : List Nat} {wE : WX} {a0 : Act} {L : List (Nat × Tmp × SV)} {A : List Ent} {i : Nat}
theorem st_callM {N : Tmp} {oi : Oper} (k r : Nat) (x : Ent) (v : SV) {f : FuncId} {fn : Func} {asx : Array Operand} {ts : Array TypeId} (args : (Nat → Nat) → Array Value) (hx : A[r]? = some x) (hxs : x.stored = some i) (hoi : ops[i]? = some oi) (hN : oi.dst = some N) (hop : oi.op = .call { callee := .value (.func f), args := asx, argTypes := ts })
    (hw : ∀ b G, Ons B O i b → Offs B O i b → Region.wanted oi (yielded ops (putSel a0 b (vals G L)).tmps) = true) (hLo : LOk L) (hL : L[k]? = some (i, N, v)) (hA : (A.all fun x => !(x.born == some i)) = true) (hAs : ((A.take r ++ A.drop (r + 1)).all fun x => !(x.stored == some i)) = true) (hbo : onB B O i x.born = true)
    (hf : P.funcs[f]? = some fn) (hname : (fn.name == "runtime.NumGoroutine") = false) (hbd : fn.body.isSome = true) (hargs : ∀ b G, Ons B O i b → Offs B O i b → asx.map (putSel a0 b (vals G L)).eval = args G)
    (hc : ∀ G w, Fr wE w → Row w (x.ad G) x.k x.n x.f0 x.t → Calls P f (args G) w fun e w' => e = .returned (v.at G) ∧ Row w' (x.ad G) x.k x.n x.f1 x.t ∧ Fr ⟨w, [x.ad G]⟩ w') : StepAt P ops Q B O (RI wE a0 L A) i := by
  rintro b a w ⟨G, rfl, hB, hR, hD⟩ hb hon hoff
  have hxm := List.mem_of_getElem? hx
  have h0 := hR x hxm (onB_is hbo hon)
  have e0 : x.f b = x.f0 := by unfold Ent.f; rw [hxs]; exact if_neg (by rw [show isOn b false (some i) = b i from rfl, hb]; decide)
  rw [e0] at h0
  refine ⟨oi, hoi, fun K hK => ?_⟩
  refine goes_ hf hname hbd (args G) (hw b G hon hoff) rfl hop (hargs b G hon hoff) ((hc G w hB h0.2).mono ?_)
  rintro e w' ⟨rfl, hr, hs⟩
  refine ⟨_, rfl, hK _ _ ⟨G, ?_, hB.touch hs h0.1, fun z hz hbz => ?_, ?_⟩⟩
  · rw [hN]
    exact putSel_upk k hb (vals_get hL) (by have h := vals_get (G := G) hL; obtain ⟨h1, h2⟩ := List.getElem?_eq_some_iff.1 h; rw [← h2]; exact List.set_getElem_self h1) (hLo.rest hL G)
  · have hzb := List.all_eq_true.1 hA z hz
    rw [Bool.not_eq_true'] at hzb
    rw [isOn_up hzb] at hbz
    obtain ⟨j, hj⟩ := List.getElem?_of_mem hz
    by_cases hjr : j = r
    · subst hjr
      rw [hx] at hj
      obtain rfl := Option.some.inj hj
      have e : x.f (up b i) = x.f1 := by unfold Ent.f; rw [hxs]; exact if_pos (up_self b i)
      rw [e]
      exact ⟨h0.1, hr⟩
    · have hm : z ∈ A.take r ++ A.drop (r + 1) := by
        rw [List.mem_append]
        by_cases hlt : j < r
        · left; exact List.mem_of_getElem? (i := j) (by rw [List.getElem?_take_of_lt hlt]; exact hj)
        · right; exact List.mem_of_getElem? (i := j - (r + 1)) (by rw [List.getElem?_drop]; rw [show r + 1 + (j - (r + 1)) = j by omega]; exact hj)
      have h2 := List.all_eq_true.1 hAs z hm
      rw [Bool.not_eq_true'] at h2
      have e : z.f (up b i) = z.f b := by unfold Ent.f; rw [isOn_up h2]
      rw [e]
      have hz0 := hR z hz hbz
      have hne : z.ad G ≠ x.ad G := by
        rw [List.pairwise_iff_getElem] at hD
        obtain ⟨hjl, hje⟩ := List.getElem?_eq_some_iff.1 hj
        obtain ⟨hrl, hre⟩ := List.getElem?_eq_some_iff.1 hx
        by_cases hlt : j < r
        · have := hD j r hjl hrl hlt (by rw [hje]; exact hbz) (by rw [hre]; exact onB_is hbo hon)
          rwa [hje, hre] at this
        · have := hD r j hrl hjl (by omega) (by rw [hre]; exact onB_is hbo hon) (by rw [hje]; exact hbz)
          rw [hje, hre] at this
          exact fun e => this e.symm
      exact ⟨hz0.1, (hs.block _ hz0.2.lt (by rw [List.mem_singleton]; exact hne)).trans hz0.2⟩
  · refine hD.imp_of_mem (fun {z y} hz hy h h1 h2 => ?_)
    have hz2 := List.all_eq_true.1 hA z hz
    have hy2 := List.all_eq_true.1 hA y hy
    rw [Bool.not_eq_true'] at hz2 hy2
    rw [isOn_up hz2] at h1
    rw [isOn_up hy2] at h2
    exact h h1 h2
end
theorem Held.norm {wE : WX} {w : World} {R : List RowD} (h : Held wE w R) (k : Nat) {r : RowD} (f' : Nat → SC) (hk : R[k]? = some r) (he : ∀ i, i < r.n → r.f i = f' i) : Held wE w (R.set k { r with f := f' }) := by
  obtain ⟨h1, h2, h3⟩ := h
  refine ⟨h1, fun q hq => ?_, ?_⟩
  · rcases List.mem_or_eq_of_mem_set hq with hq | rfl
    · exact h2 q hq
    · have := h2 r (List.mem_of_getElem? hk)
      refine ⟨this.1, ?_⟩
      have h4 := this.2
      unfold Row at h4 ⊢
      rw [h4, FR_congr r.k r.n r.f f' he]
  · have e : (R.set k { r with f := f' }).map RowD.g = R.map RowD.g := by
      apply List.ext_getElem?
      intro j
      rw [List.getElem?_map, List.getElem?_map]
      by_cases hj : k = j
      · subst hj
        rw [List.getElem?_set_self (List.getElem?_eq_some_iff.1 hk).1, hk]; rfl
      · rw [List.getElem?_set_ne hj]
    rw [e]; exact h3
section
variable {P : Program} {t : TypeId} {k : IntKind}
theorem exec_nil {o : Oper} {ev : Operand → Value} {w : World} {x : Operand} {ad : Addr} (ho : o.op = .nilCheck x) (hx : ev x = .pointer (some ad)) : (execOp ev o).run P w = .ok (.value (.pointer (some ad))) w := by
  unfold execOp; simp only [ho, hx]; rfl
theorem exec_max {o : Oper} {ev : Operand → Value} {w : World} {x y : Operand} {ty : Array TypeId} {a b z : Int} (hz : (if a < b then b else a) = z) (ho : o.op = .call { callee := .builtin .max, args := #[x, y], argTypes := ty }) (hx : ev x = .int k a) (hy : ev y = .int k b) : (execOp ev o).run P w = .ok (.value (.int k z)) w := by
  subst hz
  unfold execOp
  simp only [ho, resolve, invoke, builtin, Sem.run_bind, Sem.run_pure, Result.andThen_ok, List.map_toArray, List.map_cons, List.map_nil, hx, hy]
  simp [Builtin.max_, Builtin.max2]
theorem exec_min {o : Oper} {ev : Operand → Value} {w : World} {x y : Operand} {ty : Array TypeId} {a b z : Int} (hz : (if b < a then b else a) = z) (ho : o.op = .call { callee := .builtin .min, args := #[x, y], argTypes := ty }) (hx : ev x = .int k a) (hy : ev y = .int k b) : (execOp ev o).run P w = .ok (.value (.int k z)) w := by
  subst hz
  unfold execOp
  simp only [ho, resolve, invoke, builtin, Sem.run_bind, Sem.run_pure, Result.andThen_ok, List.map_toArray, List.map_cons, List.map_nil, hx, hy]
  simp [Builtin.min_, Builtin.min2]
theorem rs_hi {s : ByteArray} {h : Nat} (ht : P.underlying t = some .string) (hh : h ≤ s.size) (w : World) : (Instr.sliceAt t (.string s) none (some (.int k (h : Int))) none).run P w = .ok (.string (s.extract 0 h)) w := by
  rw [run_sliceAt_string w t _ _ _ _ ht, run_slice_string_h w t s ht k (h : Int) (by omega) (by omega)]; rfl
theorem rs_lo {s : ByteArray} {l : Nat} (ht : P.underlying t = some .string) (hh : l ≤ s.size) (w : World) : (Instr.sliceAt t (.string s) (some (.int k (l : Int))) none none).run P w = .ok (.string (s.extract l s.size)) w := by
  rw [run_sliceAt_string w t _ _ _ _ ht, run_slice_string_l w t s ht k (l : Int) (by omega) (by omega)]; rfl
theorem rb_sadd {x y : ByteArray} (h : x.size + y.size ≤ 1152921504606846976) (w : World) (p q : Operand) : (do eqGuard .add t p q (.string x) (.string y); binOp .add t (.string x) (.string y) : Sem Value).run P w = .ok (.string (x ++ y)) w := by
  rw [guard_string, binOp_string_add]
  go_simp
  omega
theorem rp_eql {a : Option Addr} {r : Bool} (hu : ∃ e, P.underlying t = some (.pointer e)) (h : a.isNone = r) (w : World) (p q : Operand) : (do eqGuard .eql t p q (.pointer a) (.pointer none); binOp .eql t (.pointer a) (.pointer none) : Sem Value).run P w = .ok (.bool r) w := by
  subst h
  obtain ⟨e, hu⟩ := hu
  cases a <;> go_simp
end
theorem Held.one {w : World} {g n : Nat} {f : Nat → SC} {t : TypeId} (h : Row w g () n f t) : Held ⟨w, [g]⟩ w [⟨g, (), n, f, t⟩] :=
  ⟨Fr.refl _ _, fun r hr => by rw [List.mem_singleton] at hr; subst hr; exact ⟨.inr (List.mem_singleton.2 rfl), h⟩, by simp⟩
theorem rowX {w : World} {g n : Nat} {f : Nat → SC} {t : TypeId} (h : Row w g () n f t) : ∀ j, j < n → WX.cell? ⟨w, []⟩ ((⟨g, 0, none⟩ : Addr).add j) = some (mkc () (f j)) := fun j hj => by
  unfold WX.cell?
  rw [if_neg (by simp)]
  exact row_at h j hj
theorem Row.norm {w : World} {g n : Nat} {f f' : Nat → SC} {t : TypeId} (h : Row w g () n f t) (he : ∀ i, i < n → f i = f' i) : Row w g () n f' t := by
  unfold Row at h ⊢
  rw [h, FR_congr () n f f' he]
theorem six {f f' : Nat → SC} (h : f 0 = f' 0 ∧ f 1 = f' 1 ∧ f 2 = f' 2 ∧ f 3 = f' 3 ∧ f 4 = f' 4 ∧ f 5 = f' 5) : ∀ i, i < 6 → f i = f' i := fun i hi => by
  have e : i = 0 ∨ i = 1 ∨ i = 2 ∨ i = 3 ∨ i = 4 ∨ i = 5 := by omega
  rcases e with rfl | rfl | rfl | rfl | rfl | rfl
  · exact h.1
  · exact h.2.1
  · exact h.2.2.1
  · exact h.2.2.2.1
  · exact h.2.2.2.2.1
  · exact h.2.2.2.2.2
theorem b_none {P : Program} {fn : Func} {R : Ending → World → Prop} {a : Act} {w : World} (h : fn.results = #[]) (hd : a.defers = []) (hR : R (.returned (.tuple #[])) w) : bodyPost P fn R .ret a w :=
  ⟨hd, .tuple #[], results_none h _ _ _, hR⟩
theorem b_fall {P : Program} {fn : Func} {R : Ending → World → Prop} {a : Act} {w : World} (h : fn.results = #[]) (hd : a.defers = []) (hR : R (.returned (.tuple #[])) w) : bodyPost P fn R .normal a w :=
  ⟨hd, .tuple #[], results_none h _ _ _, hR⟩
theorem rp_neq {P : Program} {t : TypeId} {a : Option Addr} {r : Bool} (hu : ∃ e, P.underlying t = some (.pointer e)) (h : a.isSome = r) (w : World) (p q : Operand) : (do eqGuard .neq t p q (.pointer a) (.pointer none); binOp .neq t (.pointer a) (.pointer none) : Sem Value).run P w = .ok (.bool r) w := by
  subst h
  obtain ⟨e, hu⟩ := hu
  cases a <;> go_simp
theorem w_nat {n : Nat} {z : Int} (h : z = (n : Int)) (hn : n < 9223372036854775808) : IntKind.i64.wrap z = (n : Int) := by
  subst h
  exact (i64_w _).trans (w64 _ (by omega))
theorem w_int {z : Int} (h : -9223372036854775808 ≤ z) (hn : z < 9223372036854775808) : IntKind.i64.wrap z = z := by
  exact (i64_w _).trans (w64 _ (by omega))
structure Sp where
  al : ByteArray
  sy : Nat
  off : Bool
  acts : Nat
  inn : Nat
  keep : Int
def spC (m : Sp) : Nat → SC := lsc [.s m.al, .i .i64 (m.sy : Int), .b m.off, .i .i64 (m.acts : Int), .i .i64 (m.inn : Int), .i .i64 m.keep]
def kp (k : Int) (n : Nat) : Nat := min (max k 0).toNat n
theorem kp_le (k : Int) (n : Nat) : kp k n ≤ n := Nat.min_le_right _ _
theorem mx_is (a b : Int) : (if a < b then b else a) = max a b := by split <;> omega
theorem kp_is (k : Int) (n : Nat) : (if ((n : Nat) : Int) < max k 0 then (n : Int) else max k 0) = ((kp k n : Nat) : Int) := by
  unfold kp; split <;> omega
theorem mx_nat (k : Int) : (if k < 0 then 0 else k) = ((k.toNat : Nat) : Int) := by split <;> omega
theorem ex_size {b : ByteArray} {n : Nat} (h : n ≤ b.size) : (b.extract 0 n).size = n := by rw [ByteArray.size_extract]; omega
theorem ex_all (b : ByteArray) : b.extract 0 b.size = b := by
  apply ByteArray.ext
  rw [ByteArray.data_extract]
  exact Array.extract_size
theorem mn_big {n : Nat} {m : Int} (h : (n : Int) ≤ m) : (if m < (n : Int) then m else (n : Int)) = (n : Int) := by split <;> omega
theorem mx_pred (n : Nat) : (if (n : Int) - 1 < 0 then 0 else (n : Int) - 1) = ((n - 1 : Nat) : Int) := by split <;> omega
theorem Held.newrow {w w' : World} {R : List RowD} (h : Held ⟨w, []⟩ w' R) (k : Nat) {r : RowD} (hk : R[k]? = some r) : w.heap.size ≤ r.g ∧ Row w' r.g r.k r.n r.f r.t := by
  have h2 := h.2.1 r (List.mem_of_getElem? hk)
  refine ⟨?_, h2.2⟩
  rcases h2.1 with h3 | h3
  · exact h3
  · cases h3
structure Rp where
  safe : ByteArray
  waits : ByteArray
  power : Bool
  acts : Nat
  inn : Nat
  keep : Int
section
variable {P : Program} {ops : Array Oper} {Q : Exit → Act → World → Prop}
def noDefer (o : Oper) : Bool := match o.op with | .defer _ => false | _ => true
theorem wpList_round {l n : Nat} (hQ : ∀ a w, ¬ Q .outgrown a w) : ∀ (L : List Oper), (L.all noDefer) = true → ∀ (a : Act) (w : World), wpList P ops Q L a w → wpListIn (Fence.wide.inRound l) n P ops Q L a w
  | [], _, a, w, h => h
  | o :: rest, hd, a, w, h => by
    rw [List.all_cons, Bool.and_eq_true] at hd
    have ih := wpList_round (l := l) (n := n) hQ rest hd.2
    unfold wpList at h
    unfold wpListIn
    split at h
    · rename_i hw
      rw [if_pos hw]
      rcases h with h | ⟨_, a', w', h⟩
      · refine ⟨fun _ _ => trivial, ?_⟩
        rw [Oper.semAt_eq _ _ _ (fun c hc => by have := hd.1; unfold noDefer at this; rw [hc] at this; cases this)]
        unfold Oper.wp at h
        generalize (execOp a.eval o).run P w = r at h
        unfold Oper.upon at h
        unfold Oper.uponIn
        split at h
        · exact ih _ _ h
        · exact ih _ _ h
        · exact ih _ _ h
        · refine ⟨fun q => (by cases q), CallsIn.inRound l (callsIn_wide.2 (h.mono ?_))⟩
          intro e w2 h2
          cases e with
          | returned v => exact ih _ _ h2
          | panicked c => exact h2
          | outgrown => exact h2
        · exact ⟨fun q => (by cases q), fun c cs _ => let ⟨v, w', r, s⟩ := h c cs; ⟨v, w', ih _ _ r, stepsIn_wide.2 s⟩⟩
        · exact h
        · exact h.elim
      · exact absurd h (hQ a' w')
    · rename_i hw
      rw [if_neg hw]
      exact ⟨fun _ _ => trivial, ih _ _ h⟩
theorem wholeR_ {l n id : Nat} {a : Act} {w : World} (hd : (ops.toList.all noDefer) = true) (hQ : ∀ a w, ¬ Q .outgrown a w) (h : wpList P ops Q (ops.toList.drop 0) a w) : (Code.region id ops false).wpIn (Fence.wide.inRound l) n P Q a w :=
  wpIn_region_list (wpList_round hQ _ hd _ _ h)
def Ad (ds : List Deferred) (a : Act) : Act := { a with defers := a.defers ++ ds }
theorem Ad_put (ds : List Deferred) (a : Act) (N : Option Tmp) (v : Value) : (Ad ds a).put N v = Ad ds (a.put N v) := by cases N <;> rfl
theorem wpList_defers {Q' : Exit → Act → World → Prop} (ds : List Deferred) (hQ : ∀ e a w, Q e a w → Q' e (Ad ds a) w) : ∀ (L : List Oper) (a : Act) (w : World), wpList P ops Q L a w → wpList P ops Q' L (Ad ds a) w
  | [], a, w, h => hQ _ _ _ h
  | o :: rest, a, w, h => by
    have ih := wpList_defers ds hQ rest
    have hlo : LetsOut Q → LetsOut Q' := fun ⟨a, w, h⟩ => ⟨_, w, hQ _ _ _ h⟩
    unfold wpList at h ⊢
    have e1 : yielded ops (Ad ds a).tmps = yielded ops a.tmps := rfl
    rw [e1]
    split at h
    · rename_i hw
      rw [if_pos hw]
      rcases h with h | ⟨h, h2⟩
      · left
        unfold Oper.wp at h ⊢
        have e2 : (Ad ds a).eval = a.eval := rfl
        rw [e2]
        generalize (execOp a.eval o).run P w = r at h
        unfold Oper.upon at h ⊢
        split at h
        · rw [Ad_put]; exact ih _ _ h
        · rw [Ad_put]; exact ih _ _ h
        · have := ih _ _ h
          rw [← Ad_put] at this
          exact this
        · refine h.mono ?_
          intro e w2 h2
          cases e with
          | returned v => show wpList P ops Q' rest ((Ad ds a).put o.dst v) w2; rw [Ad_put]; exact ih _ _ h2
          | panicked c => exact hQ _ _ _ h2
          | outgrown => exact hlo h2
        · exact h.mono (fun v w2 h2 => by rw [Ad_put]; exact ih _ _ h2)
        · exact hQ _ _ _ h
        · exact h.elim
      · exact .inr ⟨h, hlo h2⟩
    · rename_i hw
      rw [if_neg hw, Ad_put]
      exact ih _ _ h
theorem wholeD_ {id : Nat} {ds : List Deferred} {a : Act} {w : World} (h : wpList P ops (fun e a w => Q e (Ad ds a) w) (ops.toList.drop 0) a w) : (Code.region id ops false).wp P Q (Ad ds a) w :=
  wp_region_list (wpList_defers ds (fun _ _ _ h => h) _ _ _ h)
end
def AbB {β : Type} (b : Nat) (J : β → World → Prop) : Prop := ∀ s W W', J s W → W.grownBy W' (some b) → J s W'
def SeqB {α : Type} (P : Program) (n g : Nat) (lb : Array Value) (b : Nat) (encs : α → Array Value) (ls : List α) (w : World) : Prop :=
  ∀ (l : Nat) (J Jx : List α → World → Prop) (W : World), w.heap.size ≤ W.heap.size → W.heap[b]? = w.heap[b]? → AbB b J → AbB b Jx →
    (∀ pre x W1, J pre W1 → pre ++ [x] <+: ls → YieldAt Fence.wide (n - 1) P l (encs x) W1 fun e W' =>
      ∃ v, e = .returned (.bool v) ∧ W'.heap[b]? = W1.heap[b]? ∧ (v = true → J (pre ++ [x]) W') ∧ (v = false → Jx (pre ++ [x]) W')) →
    J [] W → CallsIn Fence.wide n P g (#[.func (.yield l) #[] #[]] ++ lb) W fun e W' => (∃ v, e = .returned v) ∧ (J ls W' ∨ ∃ pre, pre <+: ls ∧ Jx pre W')
def postB {α : Type} (B b : Nat) (I Ix : List α → World → Prop) (xs : List α) (W : World) : Exit → Act → World → Prop
  | .normal, _, W' => KeepsFrom B W W' ∧ W'.heap[b]? = W.heap[b]? ∧ I xs W'
  | .ret, _, W' => KeepsFrom B W W' ∧ W'.heap[b]? = W.heap[b]? ∧ Ix xs W'
  | _, _, _ => False
def OwnB {β : Type} (B b : Nat) (I : β → World → Prop) : Prop :=
  ∀ s A A' row, I s A → A.grownBy A' row → (∀ r, row = some r → r = b ∨ B ≤ r ∧ ∃ o : Obj, A.heap[r]? = some o ∧ o.isCells = false) → I s A'
theorem OwnB.put {β : Type} {B b : Nat} {I : β → World → Prop} (h : OwnB B b I) {s : β} {W : World} {l : Nat} {o : Obj} (o' : Obj) (hs : I s W) (hB : B ≤ l) (hl : W.heap[l]? = some o) (ho : o.isCells = false) : I s (W.putObj l o') :=
  h s W _ (some l) hs (grownBy_putObj' W l o') (fun r e => by cases e; exact .inr ⟨hB, _, hl, ho⟩)
theorem OwnB.new {β : Type} {B b : Nat} {I : β → World → Prop} (h : OwnB B b I) {s : β} {W : World} (o : Obj) (hs : I s W) : I s (W.alloc o) :=
  h s W _ none hs (World.grownBy_alloc W o none) (fun r e => by cases e)
theorem putObj_b {W : World} {l b : Nat} {o : Obj} (h : b ≠ l) : (W.putObj l o).heap[b]? = W.heap[b]? := World.putObj_heap_other (by omega)
theorem range_box {α : Type} {P : Program} {n : Nat} {g : Operand} {ps : Array Tmp} {assign body : Code} {Q : Exit → Act → World → Prop} {a : Act} {w : World}
    (h1 : 1 ≤ n) {gf : Nat} {lb : Array Value} (hg : a.eval g = .func (.func gf) #[] lb) (eg : ∀ args w, (callFunc gf args).run P w = .ok (.enter gf args) w)
    {b : Nat} {encs : α → Array Value} {ls : List α} (hbw : b < w.heap.size) (hseq : SeqB P (n - 1) gf lb b encs ls w) (hps : ∀ x, (encs x).size = ps.size)
    (I Ix : List α → World → Prop) (hI : OwnB w.heap.size b I) (hIx : OwnB w.heap.size b Ix) (h0 : I [] w) (Ax : α → Act → Prop)
    (hassign : ∀ (l : Nat) (x : α) (W : World) (K : Act → World → Prop), (∀ a', Ax x a' → K a' W) →
      assign.wpIn (Fence.wide.inRound l) (n - 1 - 1) P (Exit.then K (fun _ _ _ => False)) { tmps := (ps.zip (encs x)).foldl (fun t (p, v) => t.setIfInBounds p v) a.tmps, defers := [] } W)
    (hbody : ∀ (l : Nat) (pre : List α) (x : α) (a' : Act) (W : World), I pre W → pre ++ [x] <+: ls → Ax x a' → body.wpIn (Fence.wide.inRound l) (n - 1 - 1) P (postB w.heap.size b I Ix (pre ++ [x]) W) a' W)
    (hdone : ∀ (D : Nat) (W : World), w.heap.size ≤ D → I ls W → W.heap[D]? = some (.deferred (some [])) → Q .normal { a with defers := { target := .collected D, args := #[] } :: a.defers } W)
    (hstop : ∀ (D : Nat) (pre : List α) (W : World), w.heap.size ≤ D → pre <+: ls → Ix pre W → W.heap[D]? = some (.deferred (some [])) → Code.ret.wpIn Fence.wide n P Q { a with defers := { target := .collected D, args := #[] } :: a.defers } W) :
    (Code.rangeFunc g ps assign body).wpIn Fence.wide n P Q a w := by
  refine wpIn_rangeFunc fun fn hfn => ?_
  obtain ⟨D, hD⟩ : ∃ D, w.heap.size = D := ⟨_, rfl⟩
  obtain ⟨R, hR⟩ : ∃ R : LoopState → Option Code → Loop, R = fun st pe => { state := st, pending := pe, fn, tmps := a.tmps, params := ps, assign, body, defers := w.heap.size } := ⟨_, rfl⟩
  obtain ⟨W1, hW1⟩ : ∃ W1, (w.alloc (.deferred (some []))).alloc (.loop (R .ready none)) = W1 := ⟨_, rfl⟩
  have hz : (w.alloc (.deferred (some []))).heap.size = w.heap.size + 1 := by simp
  have eL : W1.heap[w.heap.size + 1]? = some (.loop (R .ready none)) := by
    rw [← hW1]; have := World.alloc_heap_new (w.alloc (.deferred (some []))) (.loop (R .ready none)); rwa [hz] at this
  have eD : W1.heap[w.heap.size]? = some (.deferred (some [])) := by
    rw [← hW1]; exact (Below.heap_alloc _ _ _ (by simp)).trans (World.alloc_heap_new w _)
  have eI : I [] W1 := by rw [← hW1]; exact hI.new _ (hI.new _ h0)
  have eb : W1.heap[b]? = w.heap[b]? := by rw [← hW1]; exact (Below.heap_alloc _ _ _ (by simp; omega)).trans (Below.heap_alloc _ _ _ hbw)
  have es : w.heap.size ≤ W1.heap.size := by rw [← hW1]; simp; omega
  have hro : Fence.wide.round = none := rfl
  rw [hro]
  refine ⟨w.heap.size + 1, [{ target := .collected w.heap.size, args := #[] }], W1, { target := .fn (.func gf) lb, args := #[.func (.yield (w.heap.size + 1)) #[] #[]] }, W1, gf,
    #[.func (.yield (w.heap.size + 1)) #[] #[]] ++ lb, W1, ?_, ?_, fun _ _ => trivial, ?_, fun _ => h1, ?_⟩
  · rw [← hW1, hR]; exact run_enterLoop_outer _ _ _ _ _
  · simp only [resolve, hg]
    simp [go_sem]
  · simp [invoke, go_sem, eg]
  -- the record and the block for deferred calls lie in every world of the loop
  have own : ∀ (st : LoopState) (pe : Option Code) (K : List α → World → Prop), OwnB w.heap.size b K → AbB b (fun pre W => K pre W ∧ W.heap[w.heap.size + 1]? = some (.loop (R st pe)) ∧ W.heap[w.heap.size]? = some (.deferred (some []))) := by
    rintro st pe K hK s A A' ⟨h, k1, k2⟩ hgr
    refine ⟨hK s A A' _ h hgr (fun r e => .inl (by cases e; rfl)), ?_, ?_⟩
    · rw [hgr.block _ (Array.getElem?_eq_some_iff.1 k1).1 (by simp; omega)]; exact k1
    · rw [hgr.block _ (Array.getElem?_eq_some_iff.1 k2).1 (by simp; omega)]; exact k2
  refine (hseq (w.heap.size + 1) (fun pre W => I pre W ∧ W.heap[w.heap.size + 1]? = some (.loop (R .ready none)) ∧ W.heap[w.heap.size]? = some (.deferred (some [])))
    (fun pre W => Ix pre W ∧ W.heap[w.heap.size + 1]? = some (.loop (R .done (some .ret))) ∧ W.heap[w.heap.size]? = some (.deferred (some []))) W1 es eb (own _ _ _ hI) (own _ _ _ hIx) ?_ ⟨eI, eL, eD⟩).mono ?_
  · rintro pre x W ⟨hi, hl, hk⟩ hpre
    have hlt := (Array.getElem?_eq_some_iff.1 hl).1
    have hy := run_yield (P := P) (args := encs x) hl (by rw [hR]; exact hps x)
    rw [hR] at hy
    refine ⟨fn, _, assign, body, hy, roundIn_of_wpIn hfn (hassign _ x W _ fun a' hax => ⟨_, run_beginRound hl (by rw [hR]), ?_⟩)⟩
    clear hy
    have hl2 : (W.putObj (w.heap.size + 1) (.loop { R .ready none with state := .busy })).heap[w.heap.size + 1]? = some (.loop { R .ready none with state := .busy }) := World.putObj_heap_same hlt
    have hk2 : (W.putObj (w.heap.size + 1) (.loop { R .ready none with state := .busy })).heap[w.heap.size]? = some (.deferred (some [])) := (World.putObj_heap_other (by omega)).trans hk
    have hb2 : (W.putObj (w.heap.size + 1) (.loop { R .ready none with state := .busy })).heap[b]? = W.heap[b]? := putObj_b (by omega)
    refine wpIn_mono (hbody _ pre x a' _ (hI.put _ hi (by omega) hl rfl) hpre hax) ?_
    have fin : ∀ (jump : Option Code) (W3 : World), KeepsFrom w.heap.size (W.putObj (w.heap.size + 1) (.loop { R .ready none with state := .busy })) W3 →
        (Instr.endRound (w.heap.size + 1) jump).run P W3 = .ok (.bool jump.isNone) (W3.putObj (w.heap.size + 1) (.loop (R (if jump.isNone then .ready else .done) jump))) ∧
        W3.heap[w.heap.size + 1]? = some (.loop { R .ready none with state := .busy }) ∧
        (W3.putObj (w.heap.size + 1) (.loop (R (if jump.isNone then .ready else .done) jump))).heap[w.heap.size + 1]? = some (.loop (R (if jump.isNone then .ready else .done) jump)) ∧
        (W3.putObj (w.heap.size + 1) (.loop (R (if jump.isNone then .ready else .done) jump))).heap[w.heap.size]? = some (.deferred (some [])) := fun jump W3 hk3 => by
      have hl3 := hk3.same _ _ (by omega) hl2 rfl
      have := run_endRound (P := P) jump hl3
      rw [hR] at this ⊢
      exact ⟨this, by rw [hR] at hl3; exact hl3, World.putObj_heap_same (Array.getElem?_eq_some_iff.1 hl3).1, (World.putObj_heap_other (by omega)).trans (hk3.same _ _ (Nat.le_refl _) hk2 rfl)⟩
    rintro e a3 W3 hp
    cases e with
    | normal =>
      obtain ⟨hk3, hb3, hi3⟩ := hp
      obtain ⟨hr, hl3, hl4, hk4⟩ := fin none W3 hk3
      exact ⟨_, _, hr, true, rfl, (putObj_b (by omega)).trans (hb3.trans hb2), fun _ => ⟨hI.put _ hi3 (by omega) hl3 rfl, hl4, hk4⟩, fun h => by cases h⟩
    | ret =>
      obtain ⟨hk3, hb3, hi3⟩ := hp
      obtain ⟨hr, hl3, hl4, hk4⟩ := fin (some .ret) W3 hk3
      exact ⟨_, _, hr, false, rfl, (putObj_b (by omega)).trans (hb3.trans hb2), fun h => (by cases h), fun _ => ⟨hIx.put _ hi3 (by omega) hl3 rfl, hl4, hk4⟩⟩
    | exit id => exact hp.elim
    | goto t => exact hp.elim
    | panic ch => exact hp.elim
    | outgrown => exact hp.elim
  · rintro e W2 ⟨⟨v, rfl⟩, (⟨hi, hl, hk⟩ | ⟨pre, hpre, hi, hl, hk⟩)⟩
    · exact ⟨none, _, by have := run_endLoop (P := P) hl (by rw [hR]; simp); rw [hR] at this; exact this, hdone _ _ (Nat.le_refl _) (hI.put _ hi (by omega) hl rfl) ((World.putObj_heap_other (by omega)).trans hk)⟩
    · exact ⟨some .ret, _, by have := run_endLoop (P := P) hl (by rw [hR]; simp); rw [hR] at this; exact this, hstop _ pre _ (Nat.le_refl _) hpre (hIx.put _ hi (by omega) hl rfl) ((World.putObj_heap_other (by omega)).trans hk)⟩
def nl : ByteArray := ⟨#[10]⟩
def cat : List ByteArray → ByteArray
  | [] => ByteArray.empty
  | x :: r => x ++ nl ++ cat r
theorem bl_append (a b : ByteArray) : bl (a ++ b) = bl a ++ bl b := by simp [bl, ByteArray.data_append]
theorem bl_len (x : ByteArray) : (bl x).length = x.size := by rw [bl, Array.length_toList]; rfl
theorem bl_extract (x : ByteArray) (i j : Nat) : bl (x.extract i j) = ((bl x).drop i).take (j - i) := by
  rw [bl, ByteArray.data_extract, Array.toList_extract]
theorem bl_nl : bl nl = [10] := rfl
theorem bl_cat (x : ByteArray) (r : List ByteArray) : bl (cat (x :: r)) = bl x ++ 10 :: bl (cat r) := by
    show bl (x ++ nl ++ cat r) = _
    rw [bl_append, bl_append, bl_nl, List.append_assoc]; rfl
theorem cat_size (x : ByteArray) (r : List ByteArray) : (cat (x :: r)).size = x.size + 1 + (cat r).size := by
  show (x ++ nl ++ cat r).size = _
  rw [ByteArray.size_append, ByteArray.size_append]; rfl
theorem cat_head (x : ByteArray) (r : List ByteArray) : (cat (x :: r)).extract 0 (x.size + 1) = x ++ nl := by
  apply bl_inj
  rw [bl_extract, bl_cat, bl_append, bl_nl, List.drop_zero, Nat.sub_zero, List.take_append, List.take_of_length_le (by rw [bl_len]; omega), bl_len, Nat.add_sub_cancel_left]
  rfl
theorem cat_rest (x : ByteArray) (r : List ByteArray) : (cat (x :: r)).extract (x.size + 1) (cat (x :: r)).size = cat r := by
  apply bl_inj
  rw [bl_extract, cat_size, bl_cat, List.drop_append, List.drop_eq_nil_iff.2 (by rw [bl_len]; omega), bl_len, Nat.add_sub_cancel_left, List.nil_append]
  rw [show x.size + 1 - x.size = 1 by omega, List.drop_one, List.tail_cons]
  rw [List.take_of_length_le (by rw [bl_len]; omega)]
def NoN (x : ByteArray) : Prop := ∀ b ∈ bl x, b ≠ 10
theorem indexByte_at : ∀ (l r : List UInt8) (c : UInt8), (∀ b ∈ l, b ≠ c) → Lib.indexByte (l ++ c :: r) c = (l.length : Int)
  | [], r, c, _ => by simp [Lib.indexByte]
  | b :: l, r, c, h => by
    have h1 : (b == c) = false := beq_eq_false_iff_ne.mpr (h b (List.mem_cons_self ..))
    have h2 := indexByte_at l r c (fun x hx => h x (List.mem_cons_of_mem _ hx))
    rw [List.cons_append, Lib.indexByte, h1, h2]
    simp
theorem cat_index (x : ByteArray) (r : List ByteArray) (hx : NoN x) : Lib.indexByte (bl (cat (x :: r))) 10 = (x.size : Int) := by
  rw [bl_cat, indexByte_at _ _ _ hx, bl_len]
set_option maxRecDepth 100000 in
theorem ibI_calls (s : ByteArray) (c : Int) (w : World) :
    Calls Try.prog 48 #[.string s, .int .u8 c] w fun e w' => e = .returned (.int .i64 (Lib.indexByte s.data.toList c.toNat.toUInt8)) ∧ w' = w := by
  go_enter Try.func48, Try.ntmps48
  go_wp2
  rw [run_callFunc_extern Try.func50 (by kernel_rfl) (by kernel_rfl) (by kernel_rfl) (e := Extern.BytealgIndexByte.indexByte) (by kernel_rfl), Lib.run_indexByteString]
  simp only [Result.andThen]
  rw [Oper.upon_value]
  go_wp2
  go_ret
  exact ⟨rfl, rfl⟩
theorem ib_line (x : ByteArray) (r : List ByteArray) (w : World) (hx : NoN x) :
    Calls Try.prog 42 #[.string (cat (x :: r)), .int .u8 10] w fun e w' => e = .returned (.int .i64 (x.size : Int)) ∧ Below w.heap.size w w' := by
  have h := cat_index x r hx
  go_enter Try.func42, Try.ntmps42
  go_wp2_with (go_at_call 48; refine (ibI_calls (cat (x :: r)) 10 _).mono ?_; rintro e w1 ⟨rfl, rfl⟩)
  go_ret
  exact ⟨by rw [← h]; rfl, Below.refl _ _⟩
theorem lines_make (s : ByteArray) (w : World) :
    Calls Try.prog 31 #[.string s] w fun e w' => e = .returned (.func (.func 41) #[] #[.pointer (some ⟨w.heap.size, 0, none⟩)]) ∧ w' = w.alloc (.cells #[.string s] 9) := by
  go_enter Try.func31, Try.ntmps31
  go_wp2
  go_ret
  exact ⟨rfl, rfl⟩
section
variable {P : Program} {ops : Array Oper} {Q : Exit → Act → World → Prop} {i n : Nat}
theorem in_run {N : Tmp} {sz : Nat} {S : List (Tmp × Value)} {a : Act} {w w' : World} {oi : Oper} {v : Value} (hoi : ops[i]? = some oi) (hN : oi.dst = some N) (hw : Region.wanted oi (yielded ops a.tmps) = true) (hrun : (execOp a.eval oi).run P w = .ok (.value v) w') (hS : Sl a sz S) (hNs : Nat.ble (N + 1) sz = true)
    (h : ∀ a', Sl a' sz ((N, v) :: S.filter fun e => !(e.1 == N)) → wpListIn Fence.wide n P ops Q (ops.toList.drop (i + 1)) a' w') : wpListIn Fence.wide n P ops Q (ops.toList.drop i) a w := by
  rw [drop_at hoi]
  unfold wpListIn
  rw [if_pos hw]
  refine ⟨fun _ _ => trivial, ?_⟩
  show Oper.uponIn _ _ _ _ _ _ _ ((execOp a.eval oi).run P w)
  rw [hrun, Oper.uponIn_value, hN]
  exact h _ (hS.put hNs rfl)
theorem in_yield {N : Tmp} {sz l : Nat} {S : List (Tmp × Value)} {a : Act} {w : World} {oi : Oper} {g x : Operand} {ts : Array TypeId} {v : Value} {R : Ending → World → Prop} (hoi : ops[i]? = some oi) (hN : oi.dst = some N) (hop : oi.op = .call { callee := .value g, args := #[x], argTypes := ts }) (hw : Region.wanted oi (yielded ops a.tmps) = true)
    (hg : a.eval g = .func (.yield l) #[] #[]) (hx : a.eval x = v) (hy : YieldAt Fence.wide (n - 1) P l #[v] w R) (hS : Sl a sz S) (hNs : Nat.ble (N + 1) sz = true)
    (h : ∀ e w', R e w' → ∃ u, e = .returned u ∧ ∀ a', Sl a' sz ((N, u) :: S.filter fun e => !(e.1 == N)) → wpListIn Fence.wide n P ops Q (ops.toList.drop (i + 1)) a' w') : wpListIn Fence.wide n P ops Q (ops.toList.drop i) a w := by
  obtain ⟨fn, tmps, assign, body, hr, hR⟩ := hy
  rw [drop_at hoi]
  unfold wpListIn
  rw [if_pos hw]
  refine ⟨fun _ _ => trivial, ?_⟩
  show Oper.uponIn _ _ _ _ _ _ _ ((execOp a.eval oi).run P w)
  have e : (execOp a.eval oi).run P w = .ok (.round l fn tmps assign body) w := by
    unfold execOp
    simp only [hop, resolve, hg, hx, List.map_toArray, List.map_cons, List.map_nil, Sem.run_bind, Sem.run_pure, Result.andThen_ok]
    simp [invoke, go_sem, hr]
  rw [e, Oper.uponIn_round]
  refine ⟨fun q => (by cases q), hR.mono ?_⟩
  intro e2 w2 h2
  obtain ⟨u, rfl, h3⟩ := h e2 w2 h2
  show wpListIn _ _ _ _ _ _ (a.put oi.dst u) w2
  rw [hN]
  exact h3 _ (hS.put hNs rfl)
theorem in_end {k : Nat} {a : Act} {w : World} (hn : ops.size = k) (h : Q .normal a w) : wpListIn Fence.wide n P ops Q (ops.toList.drop k) a w := by
  subst hn
  rw [List.drop_eq_nil_iff.2 (by simp)]
  exact h
theorem in_region {id : Nat} {a : Act} {w : World} (n : Nat) (h : wpListIn Fence.wide n P ops Q (ops.toList.drop 0) a w) : (Code.region id ops false).wp P Q a w := (wpIn_wide (n := n)).1 (wpIn_region_list h)
end
theorem fr_grown {W W' : World} {b : Nat} (h : Fr ⟨W, [b]⟩ W') : W.grownBy W' (some b) := ⟨h.os, h.tape, h.output, h.size, fun k hk hn => h.block k hk (by rw [List.mem_singleton]; exact fun e => hn (by rw [e]))⟩
def lenAt (b : Nat) (w : World) : Nat := match w.cell? ⟨b, 0, none⟩ with
  | some (.string s) => s.size
  | _ => 0
theorem lenAt_row {b : Nat} {w : World} {s : ByteArray} {t : TypeId} (h : Row w b () 1 (lsc [.s s]) t) : lenAt b w = s.size := by
  have := row_at h 0 (by omega)
  unfold lenAt
  rw [show (⟨b, 0, none⟩ : Addr) = (⟨b, 0, none⟩ : Addr).add 0 from rfl, this]; rfl
theorem cat_append : ∀ (a b : List ByteArray), cat (a ++ b) = cat a ++ cat b
  | [], b => (ByteArray.empty_append ..).symm
  | x :: a, b => by
    show x ++ nl ++ cat (a ++ b) = x ++ nl ++ cat a ++ cat b
    rw [cat_append a b]; simp only [ByteArray.append_assoc]
theorem cat_le (a b : List ByteArray) : (cat b).size ≤ (cat (a ++ b)).size := by rw [cat_append, ByteArray.size_append]; omega
theorem tabln_4 : rtab .any (opsOf Try.f41 4) = (true, [([], []), ([], []), ([1], [1]), ([0, 2], [0, 2]), ([], []), ([], []), ([5], [5]), ([4, 6], [4, 6]), ([3, 0, 1, 2, 3], [3]), ([7, 8, 0, 1, 2, 3, 4, 5, 6, 7, 8], [7])]) := by kernel_rfl
theorem bitsln_4 : waitsOk [([], []), ([], []), ([1], [1]), ([0, 2], [0, 2]), ([], []), ([], []), ([5], [5]), ([4, 6], [4, 6]), ([3, 0, 1, 2, 3], [3]), ([7, 8, 0, 1, 2, 3, 4, 5, 6, 7, 8], [7])] [0, 0, 2, 7, 0, 0, 32, 112, 15, 511] = true := by kernel_rfl
theorem lines_seq {ls : List ByteArray} (hls : ∀ x ∈ ls, NoN x) (hsz : (cat ls).size ≤ 4294967296) {w₀ : World} {b n : Nat} (hb : Row w₀ b () 1 (lsc [.s (cat ls)]) 9) : SeqB Try.prog n 41 #[.pointer (some ⟨b, 0, none⟩)] b (fun x => #[.string (x ++ nl)]) ls w₀ := by
  intro l J Jx w hws hwb hJ hJx hY h0
  have hr : Row w b () 1 (lsc [.s (cat ls)]) 9 := hwb.trans hb
  refine callsIn_wide.2 ?_
  show Calls Try.prog 41 #[.func (.yield l) #[] #[], .pointer (some ⟨b, 0, none⟩)] w _
  refine enter_ 25 Try.func41 rfl rfl (fun a0 hS => ?_)
  have HS0 : Sl a0 25 [(0, .func (.yield l) #[] #[]), (1, .pointer (some ⟨b, 0, none⟩))] := hS
  have HH0 : Held ⟨w, [b]⟩ w [⟨b, (), 1, lsc [.s (cat ls)], 9⟩] := Held.one hr
  clear hS
  refine wp_block ?_
  have hSq0 : Sl _ 25 [(0, .func (.yield l) #[] #[]), (1, .pointer (some ⟨b, 0, none⟩))] := sl_keep HS0 [0, 1] (by rfl)
  refine wp_loop (fun a w' => ∃ pre : List ByteArray, ∃ rest : List ByteArray, pre ++ rest = ls ∧ J pre w' ∧ Sl a 25 [(0, .func (.yield l) #[] #[]), (1, .pointer (some ⟨b, 0, none⟩))] ∧ Held ⟨w', [b]⟩ w' [⟨b, (), 1, lsc [.s (cat rest)], 9⟩]) (fun a w' => lenAt b w') ⟨[], ls, rfl, h0, hSq0, HH0⟩ ?_
  clear hSq0 HS0 HH0
  rintro aq0 wq0 ⟨pre, rest, hcat, hJp, HSq0, HHq0⟩
  have hm : lenAt b wq0 = (cat rest).size := lenAt_row (HHq0.row 0 rfl)
  rw [hm]
  clear hm
  have hzr : (cat rest).size ≤ (cat ls).size := by rw [← hcat]; exact cat_le pre rest
  refine wp_seq ?_
  obtain ⟨r1, hr1⟩ : ∃ r : Bool, (decide ((0 : Int) < ((cat rest).size : Int))) = r := ⟨_, rfl⟩
  refine wp_seq ?_
  have hLo : LOk [(0, 5, .val (.string (cat rest))), (1, 6, .val (.int .i64 (((cat rest).size : Int)))), (2, 7, .val (.bool r1))] := lok (by rfl) (by rfl)
  refine plain_ (wE := ⟨wq0, [b]⟩) (sz := 25) (n := 3) [0, 1, 3] [(0, .val (.func (.yield l) #[] #[])), (1, .val (.pointer (some ⟨b, 0, none⟩))), (7, .val (.bool r1))] [(0, 5, .val (.string (cat rest))), (1, 6, .val (.int .i64 (((cat rest).size : Int)))), (2, 7, .val (.bool r1))] [⟨b, none, none, (), 1, lsc [.s (cat rest)], lsc [.s (cat rest)], 9⟩] rfl (by rfl) HHq0 rfl rfl hLo rfl HSq0 (slS 0 rfl rfl (slS 1 rfl rfl (slL 2 (d := 2) rfl (trivial)))) ?_ ?_
  · show ∀ i ∈ [0, 1, 2], _
    refine steps_cons (st_read 0 0 _ _ rfl rfl rfl hLo rfl rfl (fun _ _ _ _ => rfl) (by rfl) (by rfl) (fun b G w hb ho hr => exec_cell hr (Nat.le_of_ble_eq_true rfl) Try.underlying9 rfl rfl (ev_off rfl (HSq0.get 1 rfl)))) ?_
    refine steps_cons (st_run 1 _ rfl rfl hLo rfl rfl (fun _ _ _ _ => rfl) (fun b G w hb ho => exec_lenS Try.underlying9 rfl (ev_on hLo 0 rfl HSq0.1 rfl (hb 0 (by rfl))))) ?_
    refine steps_cons (st_run 2 _ rfl rfl hLo rfl rfl (fun _ _ _ _ => rfl) (fun b G w hb ho => exec_bin rfl (ev_on hLo 1 rfl HSq0.1 rfl (hb 1 (by rfl))) (rfl) (rb_gtr hr1 _ _ _))) ?_
    exact steps_nil
  clear hLo
  intro G a1 w1 hS hH
  have HS1 : Sl a1 25 [(0, .func (.yield l) #[] #[]), (1, .pointer (some ⟨b, 0, none⟩)), (7, .bool r1)] := hS
  have HH1 : Held ⟨wq0, [b]⟩ w1 [⟨b, (), 1, lsc [.s (cat rest)], 9⟩] := hH
  clear hS hH HSq0 HHq0
  refine then_ ?_
  cases r1
  · skip
    obtain rfl : rest = [] := by
      cases rest with
      | nil => rfl
      | cons x r => have hz := cat_size x r; exact absurd (of_decide_eq_false hr1) (by rw [hz]; omega)
    rw [List.append_nil] at hcat
    subst hcat
    refine wp_cond_false (HS1.get 2 rfl) ?_
    refine wp_exit ?_
    refine then_exit ?_
    refine then_exit ?_
    refine inBlock_exit ?_
    exact b_fall rfl HS1.2.1 ⟨⟨_, rfl⟩, .inl (hJ _ _ _ hJp (fr_grown HH1.1))⟩
  · skip
    obtain ⟨x, rest2, rfl⟩ : ∃ x r, rest = x :: r := by
      cases rest with
      | nil => exact absurd (of_decide_eq_true hr1) (by show ¬ (0 : Int) < 0; omega)
      | cons x r => exact ⟨x, r, rfl⟩
    have hpre : pre ++ [x] <+: ls := ⟨rest2, by rw [← hcat]; simp⟩
    have hx : NoN x := hls x (by rw [← hcat]; simp)
    have hz := cat_size x rest2
    refine wp_cond_true (HS1.get 2 rfl) ?_
    refine wp_skip ?_
    refine then_ ?_
    refine wp_block ?_
    refine wp_seq ?_
    have hLo : LOk [(0, 3, .val (.string (ByteArray.empty)))] := lok (by rfl) (by rfl)
    refine plain_ (wE := ⟨wq0, [b]⟩) (sz := 25) (n := 1) [0] [(0, .val (.func (.yield l) #[] #[])), (1, .val (.pointer (some ⟨b, 0, none⟩))), (7, .val (.bool true)), (3, .val (.string (ByteArray.empty)))] [(0, 3, .val (.string (ByteArray.empty)))] [⟨b, none, none, (), 1, lsc [.s (cat (x :: rest2))], lsc [.s (cat (x :: rest2))], 9⟩] rfl (by rfl) HH1 rfl rfl hLo rfl HS1 (slS 0 rfl rfl (slS 1 rfl rfl (slS 2 rfl rfl (slL 0 (d := 0) rfl (trivial))))) ?_ ?_
    · show ∀ i ∈ [0], _
      refine steps_cons (st_run 0 _ rfl rfl hLo rfl rfl (fun _ _ _ _ => rfl) (fun b G w hb ho => exec_move (.inr rfl) (rfl))) ?_
      exact steps_nil
    clear hLo
    intro G a2 w2 hS hH
    have HS2 : Sl a2 25 [(0, .func (.yield l) #[] #[]), (1, .pointer (some ⟨b, 0, none⟩)), (7, .bool true), (3, .string (ByteArray.empty))] := hS
    have HH2 : Held ⟨wq0, [b]⟩ w2 [⟨b, (), 1, lsc [.s (cat (x :: rest2))], 9⟩] := hH
    clear hS hH HS1 HH1
    refine then_ ?_
    refine wp_seq ?_
    refine wp_seq ?_
    have hLo : LOk [(0, 8, .val (.string (cat (x :: rest2)))), (1, 9, .val (.int .i64 ((x.size : Int)))), (2, 4, .val (.int .i64 ((x.size : Int))))] := lok (by rfl) (by rfl)
    refine plain_ (wE := ⟨wq0, [b]⟩) (sz := 25) (n := 3) [0, 1, 3] [(0, .val (.func (.yield l) #[] #[])), (1, .val (.pointer (some ⟨b, 0, none⟩))), (7, .val (.bool true)), (3, .val (.string (ByteArray.empty))), (4, .val (.int .i64 ((x.size : Int))))] [(0, 8, .val (.string (cat (x :: rest2)))), (1, 9, .val (.int .i64 ((x.size : Int)))), (2, 4, .val (.int .i64 ((x.size : Int))))] [⟨b, none, none, (), 1, lsc [.s (cat (x :: rest2))], lsc [.s (cat (x :: rest2))], 9⟩] rfl (by rfl) HH2 rfl rfl hLo rfl HS2 (slS 0 rfl rfl (slS 1 rfl rfl (slS 2 rfl rfl (slS 3 rfl rfl (slL 2 (d := 2) rfl (trivial)))))) ?_ ?_
    · show ∀ i ∈ [0, 1, 2], _
      refine steps_cons (st_read 0 0 _ _ rfl rfl rfl hLo rfl rfl (fun _ _ _ _ => rfl) (by rfl) (by rfl) (fun b G w hb ho hr => exec_cell hr (Nat.le_of_ble_eq_true rfl) Try.underlying9 rfl rfl (ev_off rfl (HS2.get 1 rfl)))) ?_
      refine steps_cons (st_call 1 _ #[.string (cat (x :: rest2)), .int .u8 (10)] rfl rfl rfl (fun _ _ _ _ => rfl) hLo rfl rfl Try.func42 rfl rfl (fun b G hb ho => args2 (ev_on hLo 0 rfl HS2.1 rfl (hb 0 (by rfl))) (rfl)) (fun w hw => ib_line x rest2 _ hx)) ?_
      refine steps_cons (st_run 2 _ rfl rfl hLo rfl rfl (fun _ _ _ _ => rfl) (fun b G w hb ho => exec_move (.inr rfl) (ev_on hLo 1 rfl HS2.1 rfl (hb 1 (by rfl))))) ?_
      exact steps_nil
    clear hLo
    intro G a3 w3 hS hH
    have HS3 : Sl a3 25 [(0, .func (.yield l) #[] #[]), (1, .pointer (some ⟨b, 0, none⟩)), (7, .bool true), (3, .string (ByteArray.empty)), (4, .int .i64 ((x.size : Int)))] := hS
    have HH3 : Held ⟨wq0, [b]⟩ w3 [⟨b, (), 1, lsc [.s (cat (x :: rest2))], 9⟩] := hH
    clear hS hH HS2 HH2
    refine then_ ?_
    refine wp_seq ?_
    have hLo : LOk [(0, 10, .val (.int .i64 ((x.size : Int)))), (1, 11, .val (.bool true))] := lok (by rfl) (by rfl)
    refine plain_ (wE := ⟨wq0, [b]⟩) (sz := 25) (n := 2) [0, 1] [(0, .val (.func (.yield l) #[] #[])), (1, .val (.pointer (some ⟨b, 0, none⟩))), (7, .val (.bool true)), (3, .val (.string (ByteArray.empty))), (4, .val (.int .i64 ((x.size : Int)))), (11, .val (.bool true))] [(0, 10, .val (.int .i64 ((x.size : Int)))), (1, 11, .val (.bool true))] [⟨b, none, none, (), 1, lsc [.s (cat (x :: rest2))], lsc [.s (cat (x :: rest2))], 9⟩] rfl (by rfl) HH3 rfl rfl hLo rfl HS3 (slS 0 rfl rfl (slS 1 rfl rfl (slS 2 rfl rfl (slS 3 rfl rfl (slS 4 rfl rfl (slL 1 (d := 1) rfl (trivial))))))) ?_ ?_
    · show ∀ i ∈ [0, 1], _
      refine steps_cons (st_run 0 _ rfl rfl hLo rfl rfl (fun _ _ _ _ => rfl) (fun b G w hb ho => exec_move (.inl rfl) (ev_off rfl (HS3.get 4 rfl)))) ?_
      refine steps_cons (st_run 1 _ rfl rfl hLo rfl rfl (fun _ _ _ _ => rfl) (fun b G w hb ho => exec_bin rfl (ev_on hLo 0 rfl HS3.1 rfl (hb 0 (by rfl))) (rfl) (rb_geq (decide_eq_true (by omega)) _ _ _))) ?_
      exact steps_nil
    clear hLo
    intro G a4 w4 hS hH
    have HS4 : Sl a4 25 [(0, .func (.yield l) #[] #[]), (1, .pointer (some ⟨b, 0, none⟩)), (7, .bool true), (3, .string (ByteArray.empty)), (4, .int .i64 ((x.size : Int))), (11, .bool true)] := hS
    have HH4 : Held ⟨wq0, [b]⟩ w4 [⟨b, (), 1, lsc [.s (cat (x :: rest2))], 9⟩] := hH
    clear hS hH HS3 HH3
    refine then_ ?_
    refine wp_cond_true (HS4.get 5 rfl) ?_
    have hLo : LOk [(0, 12, .val (.string (cat (x :: rest2)))), (1, 13, .val (.int .i64 ((x.size : Int)))), (2, 14, .val (.int .i64 (((x.size + 1 : Nat) : Int)))), (3, 15, .val (.string ((cat (x :: rest2)).extract 0 (x.size + 1)))), (4, 16, .val (.string (cat (x :: rest2)))), (5, 17, .val (.int .i64 ((x.size : Int)))), (6, 18, .val (.int .i64 (((x.size + 1 : Nat) : Int)))), (7, 19, .val (.string ((cat (x :: rest2)).extract (x.size + 1) (cat (x :: rest2)).size))), (8, 3, .val (.string ((cat (x :: rest2)).extract 0 (x.size + 1))))] := lok (by rfl) (by rfl)
    refine region_ (wE := ⟨wq0, [b]⟩) (sz := 25) (n := 10) (B := [0, 0, 2, 7, 0, 0, 32, 112, 15, 511]) [0, 1, 2, 3, 4, 5, 6, 7, 8, 9] [(0, .val (.func (.yield l) #[] #[])), (1, .val (.pointer (some ⟨b, 0, none⟩))), (7, .val (.bool true)), (4, .val (.int .i64 ((x.size : Int)))), (11, .val (.bool true)), (3, .val (.string ((cat (x :: rest2)).extract 0 (x.size + 1))))] [(0, 12, .val (.string (cat (x :: rest2)))), (1, 13, .val (.int .i64 ((x.size : Int)))), (2, 14, .val (.int .i64 (((x.size + 1 : Nat) : Int)))), (3, 15, .val (.string ((cat (x :: rest2)).extract 0 (x.size + 1)))), (4, 16, .val (.string (cat (x :: rest2)))), (5, 17, .val (.int .i64 ((x.size : Int)))), (6, 18, .val (.int .i64 (((x.size + 1 : Nat) : Int)))), (7, 19, .val (.string ((cat (x :: rest2)).extract (x.size + 1) (cat (x :: rest2)).size))), (8, 3, .val (.string ((cat (x :: rest2)).extract 0 (x.size + 1))))] [⟨b, none, some 9, (), 1, lsc [.s (cat (x :: rest2))], upd (lsc [.s (cat (x :: rest2))]) 0 (.s ((cat (x :: rest2)).extract (x.size + 1) (cat (x :: rest2)).size)), 9⟩] (by rfl) rfl tabln_4 bitsln_4 (by kernel_rfl) (by kernel_rfl) HH4 rfl rfl hLo rfl HS4 (slS 0 rfl rfl (slS 1 rfl rfl (slS 2 rfl rfl (slS 4 rfl rfl (slS 5 rfl rfl (slL 8 (d := 8) rfl (trivial))))))) ?_ ?_
    · show ∀ i ∈ [0, 1, 2, 3, 4, 5, 6, 7, 8, 9], _
      refine steps_cons (st_read 0 0 _ _ rfl rfl rfl hLo rfl rfl (fun _ _ _ _ => rfl) (by rfl) (by rfl) (fun b G w hb ho hr => exec_cell hr (Nat.le_of_ble_eq_true rfl) Try.underlying9 rfl rfl (ev_off rfl (HS4.get 1 rfl)))) ?_
      refine steps_cons (st_run 1 _ rfl rfl hLo rfl rfl (fun _ _ _ _ => rfl) (fun b G w hb ho => exec_move (.inl rfl) (ev_off rfl (HS4.get 4 rfl)))) ?_
      refine steps_cons (st_run 2 _ rfl rfl hLo rfl rfl (fun _ _ _ _ => rfl) (fun b G w hb ho => exec_bin rfl (ev_on hLo 1 rfl HS4.1 rfl (hb 1 (by rfl))) (rfl) (rb_add (w_nat (by omega) (by omega)) _ _ _))) ?_
      refine steps_cons (st_run 3 _ rfl rfl hLo rfl rfl (fun _ _ _ _ => rfl) (fun b G w hb ho => exec_slice rfl (ev_on hLo 0 rfl HS4.1 rfl (hb 0 (by rfl))) rfl (congrArg some (ev_on hLo 2 rfl HS4.1 rfl (hb 2 (by rfl)))) rfl (rs_hi Try.underlying9 (by rw [hz]; omega) _))) ?_
      refine steps_cons (st_read 4 0 _ _ rfl rfl rfl hLo rfl rfl (fun _ _ _ _ => rfl) (by rfl) (by rfl) (fun b G w hb ho hr => exec_cell hr (Nat.le_of_ble_eq_true rfl) Try.underlying9 rfl rfl (ev_off rfl (HS4.get 1 rfl)))) ?_
      refine steps_cons (st_run 5 _ rfl rfl hLo rfl rfl (fun _ _ _ _ => rfl) (fun b G w hb ho => exec_move (.inl rfl) (ev_off rfl (HS4.get 4 rfl)))) ?_
      refine steps_cons (st_run 6 _ rfl rfl hLo rfl rfl (fun _ _ _ _ => rfl) (fun b G w hb ho => exec_bin rfl (ev_on hLo 5 rfl HS4.1 rfl (hb 5 (by rfl))) (rfl) (rb_add (w_nat (by omega) (by omega)) _ _ _))) ?_
      refine steps_cons (st_run 7 _ rfl rfl hLo rfl rfl (fun _ _ _ _ => rfl) (fun b G w hb ho => exec_slice rfl (ev_on hLo 4 rfl HS4.1 rfl (hb 4 (by rfl))) (congrArg some (ev_on hLo 6 rfl HS4.1 rfl (hb 6 (by rfl)))) rfl rfl (rs_lo Try.underlying9 (by rw [hz]; omega) _))) ?_
      refine steps_cons (st_run 8 _ rfl rfl hLo rfl rfl (fun _ _ _ _ => rfl) (fun b G w hb ho => exec_move (.inr rfl) (ev_on hLo 3 rfl HS4.1 rfl (hb 3 (by rfl))))) ?_
      refine steps_cons (st_put 0 _ rfl rfl rfl rfl (fun _ _ _ _ => rfl) rfl rfl rfl (by rfl) (fun b G w hb ho hr => exec_put1 hr (Nat.le_of_ble_eq_true rfl) (by kernel_rfl) rfl (ev_off rfl (HS4.get 1 rfl)) (ev_on hLo 7 rfl HS4.1 rfl (hb 7 (by rfl))))) ?_
      exact steps_nil
    clear hLo
    intro G a5 w5 hS hH
    have HS5 : Sl a5 25 [(0, .func (.yield l) #[] #[]), (1, .pointer (some ⟨b, 0, none⟩)), (7, .bool true), (4, .int .i64 ((x.size : Int))), (11, .bool true), (3, .string ((cat (x :: rest2)).extract 0 (x.size + 1)))] := hS
    have HH5 : Held ⟨wq0, [b]⟩ w5 [⟨b, (), 1, upd (lsc [.s (cat (x :: rest2))]) 0 (.s ((cat (x :: rest2)).extract (x.size + 1) (cat (x :: rest2)).size)), 9⟩] := hH
    clear hS hH HS4 HH4
    refine then_ ?_
    rw [cat_rest] at HH5
    rw [cat_head] at HS5
    refine wp_seq ?_
    refine in_region n ?_
    refine in_run (i := 0) rfl rfl rfl (exec_move (.inl rfl) (HS5.get 0 rfl)) HS5 rfl (fun a6 hS => ?_)
    have HS6 : Sl a6 25 [(21, .func (.yield l) #[] #[]), (0, .func (.yield l) #[] #[]), (1, .pointer (some ⟨b, 0, none⟩)), (7, .bool true), (4, .int .i64 ((x.size : Int))), (11, .bool true), (3, .string (x ++ nl))] := hS
    clear hS
    refine in_run (i := 1) rfl rfl rfl (exec_move (.inl rfl) (HS6.get 6 rfl)) HS6 rfl (fun a7 hS => ?_)
    have HS7 : Sl a7 25 [(22, .string (x ++ nl)), (21, .func (.yield l) #[] #[]), (0, .func (.yield l) #[] #[]), (1, .pointer (some ⟨b, 0, none⟩)), (7, .bool true), (4, .int .i64 ((x.size : Int))), (11, .bool true), (3, .string (x ++ nl))] := hS
    clear hS
    have hJ1 : J pre w5 := hJ _ _ _ hJp (fr_grown HH5.1)
    have hRw := HH5.row 0 rfl
    refine in_yield (i := 2) rfl rfl rfl rfl (HS7.get 1 rfl) (HS7.get 0 rfl) (hY pre x _ hJ1 hpre) HS7 rfl ?_
    rintro e7 w7 ⟨rb, rfl, hsame, hgo, hstop⟩
    refine ⟨_, rfl, fun a7 hS => ?_⟩
    have HS7 : Sl a7 25 [(23, .bool rb), (22, .string (x ++ nl)), (21, .func (.yield l) #[] #[]), (0, .func (.yield l) #[] #[]), (1, .pointer (some ⟨b, 0, none⟩)), (7, .bool true), (4, .int .i64 ((x.size : Int))), (11, .bool true), (3, .string (x ++ nl))] := hS
    clear hS
    have hR7 : Row w7 b () 1 (lsc [.s (cat rest2)]) 9 := hsame.trans hRw
    have HH7 : Held ⟨w7, [b]⟩ w7 [⟨b, (), 1, lsc [.s (cat rest2)], 9⟩] := Held.one hR7
    refine in_run (i := 3) rfl rfl rfl (exec_un rfl (HS7.get 0 rfl) (ru_not _)) HS7 rfl (fun a8 hS => ?_)
    have HS8 : Sl a8 25 [(24, .bool (!rb)), (23, .bool rb), (22, .string (x ++ nl)), (21, .func (.yield l) #[] #[]), (0, .func (.yield l) #[] #[]), (1, .pointer (some ⟨b, 0, none⟩)), (7, .bool true), (4, .int .i64 ((x.size : Int))), (11, .bool true), (3, .string (x ++ nl))] := hS
    clear hS
    refine in_end rfl ?_
    refine then_ ?_
    cases rb
    · skip
      refine wp_cond_true (HS8.get 0 rfl) ?_
      refine wp_ret ?_
      repeat (first | refine then_ret ?_ | refine inBlock_ret' ?_)
      exact b_none rfl HS8.2.1 ⟨⟨_, rfl⟩, .inr ⟨_, hpre, hstop rfl⟩⟩
    · skip
      refine wp_cond_false (HS8.get 0 rfl) ?_
      refine wp_skip ?_
      refine inBlock_normal ?_
      refine then_ ?_
      have hSq0' : Sl _ 25 [(0, .func (.yield l) #[] #[]), (1, .pointer (some ⟨b, 0, none⟩))] := sl_keep HS8 [4, 5] (by rfl)
      have hHq0' : Held ⟨w7, [b]⟩ _ [⟨b, (), 1, lsc [.s (cat rest2)], 9⟩] := held_keep HH7 1 rfl
      exact ⟨⟨pre ++ [x], rest2, by rw [← hcat]; simp, hgo rfl, hSq0', hHq0'⟩, by rw [lenAt_row hR7, hz]; omega⟩
def LF (T : List (Nat × Tmp)) (V : Nat → Value) : List (Nat × Tmp × SV) := T.map fun e => (e.1, e.2, .val (V e.1))
def TOk (T : List (Nat × Tmp)) : Prop := nodB (T.map fun e => e.1) = true ∧ nodB (T.map fun e => e.2) = true
theorem TOk.lf {T : List (Nat × Tmp)} (h : TOk T) (V : Nat → Value) : LOk (LF T V) := by
  refine lok ?_ ?_
  · unfold LF; rw [List.map_map]; exact h.1
  · unfold LF; rw [List.map_map]; exact h.2
def setV (V : Nat → Value) (i : Nat) (v : Value) : Nat → Value := fun j => if j = i then v else V j
theorem LF_get {T : List (Nat × Tmp)} {V : Nat → Value} {k : Nat} {e : Nat × Tmp} (h : T[k]? = some e) : (LF T V)[k]? = some (e.1, e.2, .val (V e.1)) := by
  unfold LF; rw [List.getElem?_map, h]; rfl
abbrev act (a0 : Act) (T : List (Nat × Tmp)) (V : Nat → Value) (b : Nat → Bool) : Act := putSel a0 b (vals (fun _ => 0) (LF T V))
def CI (a0 : Act) (T : List (Nat × Tmp)) (F : (Nat → Value) → (Nat → Bool) → World → Prop) (b : Nat → Bool) (a : Act) (w : World) : Prop := ∃ V, a = act a0 T V b ∧ F V b w
section
variable {P : Program} {ops : Array Oper} {Q : Exit → Act → World → Prop} {B O : List Nat} {a0 : Act} {i : Nat} {T : List (Nat × Tmp)} {F : (Nat → Value) → (Nat → Bool) → World → Prop}
theorem cf_on {V : Nat → Value} {b : Nat → Bool} {d : Nat} {t : Tmp} (hLo : TOk T) (k : Nat) (hT : T[k]? = some (d, t)) {sz : Nat} (hsz : a0.tmps.size = sz) (hs : Nat.ble (t + 1) sz = true) (hb : b d = true) : (act a0 T V b).eval (.tmp t) = V d :=
  ev_on (hLo.lf V) k (LF_get hT) hsz hs hb
theorem cf_off {V : Nat → Value} {b : Nat → Bool} {t : Tmp} {v : Value} (h : (T.all fun e => !(e.2 == t)) = true) (hv : a0.eval (.tmp t) = v) : (act a0 T V b).eval (.tmp t) = v :=
  ev_off (by unfold LF; rw [List.all_map]; exact h) hv
theorem cf_put {V : Nat → Value} {b : Nat → Bool} {N : Tmp} {k : Nat} (v : Value) (hLo : TOk T) (hT : T[k]? = some (i, N)) (hb : b i = false) : (act a0 T V b).put (some N) v = act a0 T (setV V i v) (up b i) := by
  have hL := LF_get (V := V) hT
  have hlt : k < T.length := (List.getElem?_eq_some_iff.1 hT).1
  refine putSel_upk k hb (vals_get hL) ?_ ((hLo.lf V).rest hL _)
  apply List.ext_getElem?
  intro j
  by_cases hj : j = k
  · subst hj
    rw [List.getElem?_set_self (by unfold vals LF; simpa using hlt), vals_get (LF_get hT)]
    simp [SV.at, setV]
  · rw [List.getElem?_set_ne (fun e => hj e.symm)]
    cases e : T[j]? with
    | none =>
      unfold vals LF
      simp [e]
    | some x =>
      rw [vals_get (LF_get e), vals_get (LF_get e)]
      have hne : x.1 ≠ i := fun he => by
        have h1 := nodB_is hLo.1
        rw [List.nodup_iff_pairwise_ne, List.pairwise_iff_getElem] at h1
        obtain ⟨hl, hle⟩ := List.getElem?_eq_some_iff.1 e
        obtain ⟨_, hke⟩ := List.getElem?_eq_some_iff.1 hT
        rcases Nat.lt_or_ge j k with hlt2 | hge
        · have := h1 j k (by simpa using hl) (by simpa using hlt) hlt2
          simp only [List.getElem_map, hle, hke] at this
          exact this he
        · have := h1 k j (by simpa using hlt) (by simpa using hl) (by omega)
          simp only [List.getElem_map, hle, hke] at this
          exact this he.symm
      simp [SV.at, setV, hne]
theorem ci_go {N : Tmp} {oi : Oper} (k : Nat) (hLo : TOk T) (hoi : ops[i]? = some oi) (hN : oi.dst = some N) (hT : T[k]? = some (i, N))
    (hgo : ∀ V b w (K : Act → World → Prop), F V b w → b i = false → Ons B O i b → Offs B O i b → (∀ v w', F (setV V i v) (up b i) w' → K ((act a0 T V b).put (some N) v) w') →
      if Region.wanted oi (yielded ops (act a0 T V b).tmps) = true then Oper.wp P oi (act a0 T V b) w K Q else K ((act a0 T V b).put (some N) undef) w) : StepAt P ops Q B O (CI a0 T F) i := by
  rintro b a w ⟨V, rfl, hF⟩ hb hon hoff
  refine ⟨oi, hoi, fun K hK => ?_⟩
  rw [hN]
  exact hgo V b w K hF hb hon hoff (fun v w' hF' => by
    rw [cf_put v hLo hT hb]
    exact hK _ _ ⟨_, rfl, hF'⟩)
theorem ci_run {N : Tmp} {oi : Oper} (k : Nat) (hLo : TOk T) (hoi : ops[i]? = some oi) (hN : oi.dst = some N) (hT : T[k]? = some (i, N)) (hg : ∀ V b, Region.wanted oi (yielded ops (act a0 T V b).tmps) = true)
    (h : ∀ V b w, F V b w → b i = false → Ons B O i b → Offs B O i b → ∃ v w', (execOp (act a0 T V b).eval oi).run P w = .ok (.value v) w' ∧ F (setV V i v) (up b i) w') : StepAt P ops Q B O (CI a0 T F) i :=
  ci_go k hLo hoi hN hT (fun V b w K hF hbi hon hoff hK => by
    obtain ⟨v, w', hr, hF'⟩ := h V b w hF hbi hon hoff
    rw [← hN] at hK ⊢
    exact event_step (hg V b) hr (hK v w' hF'))
theorem ci_call {N : Tmp} {oi : Oper} {f : FuncId} {fn : Func} {asx : Array Operand} {ts : Array TypeId} (k : Nat) (hLo : TOk T) (hoi : ops[i]? = some oi) (hN : oi.dst = some N) (hT : T[k]? = some (i, N)) (hop : oi.op = .call { callee := .value (.func f), args := asx, argTypes := ts }) (hg : ∀ V b, Region.wanted oi (yielded ops (act a0 T V b).tmps) = true)
    (hf : P.funcs[f]? = some fn) (hname : (fn.name == "runtime.NumGoroutine") = false) (hbd : fn.body.isSome = true)
    (h : ∀ V b w, F V b w → b i = false → Ons B O i b → Offs B O i b → ∃ args, asx.map (act a0 T V b).eval = args ∧ Calls P f args w fun e w' => ∃ v, e = .returned v ∧ F (setV V i v) (up b i) w') : StepAt P ops Q B O (CI a0 T F) i :=
  ci_go k hLo hoi hN hT (fun V b w K hF hbi hon hoff hK => by
    obtain ⟨args, ha, hc⟩ := h V b w hF hbi hon hoff
    exact goes_ hf hname hbd args (hg V b) hN hop ha (hc.mono (by
      rintro e w' ⟨v, rfl, hF'⟩
      exact ⟨v, rfl, hK v w' hF'⟩)))
theorem regionF_ {T0 : Bool × List (List Nat × List Nat)} {w : World} {id n sz : Nat} {S : List (Tmp × Value)} (O : List Nat) (T : List (Nat × Tmp)) (F : (Nat → Value) → (Nat → Bool) → World → Prop) (hm : P.follows .mixedOrders = true) (hn : ops.size = n) (hT : rtab .any ops = T0) (hw : waitsOk T0.2 B = true) (hk : baseOk T0.2 O = true)
    (hl : (lof T0.2.length O (fun _ => false) == List.replicate n false && O.length == n) = true) (hTO : (T.all fun e => O.contains e.1 && Nat.ble (e.2 + 1) sz) = true) (hLo : TOk T) (hS : Sl a0 sz S) (h0 : ∀ V, F V (fun _ => false) w.drew) (hs : ∀ i ∈ O, StepAt P ops Q B O (CI a0 T F) i)
    (hend : ∀ V b a' w', (∀ j, O.contains j = true → b j = true) → F V b w' → Sl a' sz ((T.map fun e => (e.2, V e.1)) ++ S.filter fun e => T.all fun d => !(d.2 == e.1)) → Q .normal a' w') : (Code.region id ops true).wp P Q a0 w := by
  refine start_ (n := n) (S := fun _ => True) (ds := []) (Array.replicate n false) hm hn rfl trivial (fun _ => ?_)
  refine inv_ O (CI a0 T F) hT hw hk (by simpa using hl) ⟨fun _ => undef, ?_, h0 _⟩ hs (fun b a' w' hall hI => ?_)
  · exact (putSel_nil fun _ => rfl).symm
  · obtain ⟨V, rfl, hF⟩ := hI
    refine hend V b _ w' hall hF ⟨(putSel_size b _ _).1.trans hS.1, (putSel_size b _ _).2.trans hS.2.1, fun e he => ?_⟩
    rcases List.mem_append.1 he with he | he
    · obtain ⟨d, hd, rfl⟩ := List.mem_map.1 he
      obtain ⟨k, hk2⟩ := List.getElem?_of_mem hd
      have h1 := List.all_eq_true.1 hTO d hd
      rw [Bool.and_eq_true] at h1
      exact cf_on hLo k hk2 hS.1 h1.2 (hall d.1 h1.1)
    · obtain ⟨h1, h2⟩ := List.mem_filter.1 he
      exact cf_off h2 (hS.2.2 e h1)
end
end Go.Proofs.Ytdleomeiojlooaa.P
end

section
namespace Go.Proofs.YtdleomeiojlooaaW.PrintWords
open Go.RowKit
section
variable {w w' u : World} {m B g : Nat} {o : Obj} {row : Option Nat} {S : Nat → Prop} {a : Addr} {v : Value}
theorem below_at (hq : w.drewN m = w') (h : Below B u w) : Below B u w' := by subst hq; exact pw_below_drewN h m
end
namespace Kd
section
variable {α : Type} {d : Kd α} {e base n m : Nat} {ok : Nat → Prop} {w w' : World} {v : Value} {A : Option Addr} {xs : List α}
theorem R_at (hq : w.drewN m = w') (h : d.R e w base ok v xs) : d.R e w' base ok v xs := by subst hq; exact R_drewN h m
end
end Kd
end Go.Proofs.YtdleomeiojlooaaW.PrintWords
end

section
namespace Go.Proofs.Ytdleomeiojlooaa.P
open Go.RowKit Go.Proofs.YtdleomeiojlooaaW.PrintWords Go.Proofs.YtdleomeiojlooaaW.PrintLast Go.Proofs.YtdleomeiojlooaaW.PrintMore
set_option linter.unusedVariables false
set_option linter.unusedSimpArgs false
def errW : Option Int → Value
  | none => .nilIface
  | some c => .iface 0 (.int .i64 c)
theorem errW_none : errW none = .nilIface := rfl
theorem errW_some (c : Int) : errW (some c) = .iface 0 (.int .i64 c) := rfl
theorem info5 : (Try.prog.info? 5).map (fun i => (i.zero, i.size, i.bytes)) = some (some (.int .u8 0), 1, 1) := by kernel_rfl
theorem info9 : (Try.prog.info? 9).map (fun i => (i.zero, i.size, i.bytes)) = some (some (.string ⟨#[]⟩), 1, 16) := by kernel_rfl
-- the values' own types
structure S49 where
  f0 : Int
  f1 : Int
  f2 : Int
  f3 : ByteArray
def z49 : S49 := ⟨(0 : Int), (0 : Int), (0 : Int), (⟨#[]⟩ : ByteArray)⟩
def k49 : Kd S49 := Kd.iso (Kd.pair (Kd.int .i64) (Kd.pair (Kd.int .i64) (Kd.pair (Kd.int .i64) Kd.string))) (fun x : S49 => (x.f0, x.f1, x.f2, x.f3))
theorem k49_open {w : World} {x : S49} {cs : List Value} (h : k49.K w x cs) : cs = [.int .i64 x.f0, .int .i64 x.f1, .int .i64 x.f2, .string x.f3] := by
  obtain ⟨_, _, rfl, rfl, ⟨_, _, rfl, rfl, ⟨_, _, rfl, rfl, rfl⟩⟩⟩ := h
  exact rfl
def rd_T49 (xs : List S49) (i : Int) : S49 := xs.getD i.toNat z49
theorem at_T49 {w : World} {A : Option Addr} {n : Nat} {xs : List S49} (h : Kd.C k49 w A n xs) (i : Int) (h0 : 0 ≤ i) (h1 : i < n) : ∃ ad , A = some ad ∧ w.cell? (ad.add (i.toNat * 4)) = some (.int .i64 (rd_T49 xs i).f0) ∧ w.cell? ⟨(ad.add (i.toNat * 4)).block, (ad.add (i.toNat * 4)).off + 1, none⟩ = some (.int .i64 (rd_T49 xs i).f1) ∧ w.cell? ⟨(ad.add (i.toNat * 4)).block, (ad.add (i.toNat * 4)).off + 2, none⟩ = some (.int .i64 (rd_T49 xs i).f2) ∧ w.cell? ⟨(ad.add (i.toNat * 4)).block, (ad.add (i.toNat * 4)).off + 3, none⟩ = some (.string (rd_T49 xs i).f3) := by
  obtain ⟨ad, c, e, _, hK, hc0⟩ := Kd.C_get h z49 i h0 h1
  have hc : ∀ j u, c[j]? = some u → w.cell? (ad.add (i.toNat * 4 + j)) = some u := hc0
  obtain rfl := k49_open hK
  exact ⟨ad, e, hc 0 _ rfl, by rw [← add_field _ _ 1 (by omega)]; exact hc 1 _ rfl, by rw [← add_field _ _ 2 (by omega)]; exact hc 2 _ rfl, by rw [← add_field _ _ 3 (by omega)]; exact hc 3 _ rfl⟩
end Go.Proofs.Ytdleomeiojlooaa.P
end
