/- Merged of the texts: Ea, WWords, WLast, WQPut, WApart, WArr, WZeros, WFoot, WKept, WShare, WN, WNEv, WMore, WTab, WRepsOne, Bas, Fa (trim.py). -/
import Derived.KernelRfl
import Derived.Below
import Derived.Deep.Draws
import Derived.Deep.AppendLies
import Derived.Maps.AppendAt
import Derived.OwnWalk
import Derived.Laws.BytesArg
import Derived.Laws.MakeOwn
import Derived.Laws.OwnMore
import Derived.Deep.OwnRows
import Derived.Tactics
import Derived.Lib.ConvBytes
import Derived.Laws.Slices
import Derived.WalkKit
import Derived.RowKit3
import Derived.Deep.LoopGhost
import Derived.Deep.QuietTactic
import Derived.BigQuiet
import Derived.WideLaws
import Derived.Deep.DeepCutAuto
import Derived.Deep.CutBlock
import Derived.Deep.RegionHeld3
import Derived.Laws.Rows
import Derived.Lib.AppendStr
import Derived.ArgAppend
import Derived.Laws.IdiomCopy
import Derived.RowKit
import Derived.OrdersHeld
import Derived.Laws.BitsLemmas
import Derived.Laws.BitsAllLaws
import Derived.Laws.NewBlocks
import Derived.ChangeKeysEq
import Derived.Laws.StructEq
import Derived.Deep.RegionWith
import Derived.WideKeyArr2
import Derived.Lib.Mul64
import Derived.Laws.Externs
import Derived.ChangeSlices
import Derived.Test.YtbmnkchcekacfaaDoorProg
namespace Foot
end Foot
namespace Go.Proofs.YtbmnkchcekacfaaDoor.P
end Go.Proofs.YtbmnkchcekacfaaDoor.P
namespace Go.Proofs.YtbmnkchcekacfaaDoor.P.Dg
end Go.Proofs.YtbmnkchcekacfaaDoor.P.Dg
namespace Go.Proofs.YtbmnkchcekacfaaDoor.P.Fd
end Go.Proofs.YtbmnkchcekacfaaDoor.P.Fd
namespace Go.Proofs.YtbmnkchcekacfaaDoorW.PrintLast
end Go.Proofs.YtbmnkchcekacfaaDoorW.PrintLast
namespace Go.Proofs.YtbmnkchcekacfaaDoorW.PrintMore
end Go.Proofs.YtbmnkchcekacfaaDoorW.PrintMore
namespace Go.Proofs.YtbmnkchcekacfaaDoorW.PrintWords
end Go.Proofs.YtbmnkchcekacfaaDoorW.PrintWords
namespace Kd
end Kd
section
namespace Go.Proofs.YtbmnkchcekacfaaDoor.P
set_option linter.unusedVariables false
section
variable {n : Nat} [NeZero n]
structure Fld (n : Nat) [NeZero n] (d : Fin n) : Prop where
  inv : ∀ a : Fin n, a ≠ 0 → ∃ b, a * b = 1
  one : (1 : Fin n) ≠ 0
  two : (2 : Fin n) ≠ 0
  im : ∃ i : Fin n, i * i = -1
  nsq : ∀ z : Fin n, z * z ≠ d
theorem Fld.dom {d : Fin n} (h : Fld n d) {a b : Fin n} (e : a * b = 0) : a = 0 ∨ b = 0 := by
  by_cases ha : a = 0
  · exact .inl ha
  · obtain ⟨c, hc⟩ := h.inv a ha
    right
    grind
theorem Fld.cancel {d : Fin n} (h : Fld n d) {a b c : Fin n} (hc : c ≠ 0) (e : a * c = b * c) : a = b := by
  obtain ⟨k, hk⟩ := h.inv c hc
  grind
theorem Fld.mul_ne {d : Fin n} (h : Fld n d) {a b : Fin n} (ha : a ≠ 0) (hb : b ≠ 0) : a * b ≠ 0 := fun e => by
  rcases h.dom e with h1 | h1
  · exact ha h1
  · exact hb h1
def OnC (d x y : Fin n) : Prop := y * y - x * x = 1 + d * x * x * y * y
theorem sq_key (d x1 y1 x2 y2 i s : Fin n) (hi : i * i = -1) (h1 : OnC d x1 y1) (h2 : OnC d x2 y2) (ht : d * x1 * x2 * y1 * y2 = s) (hs : s * s = 1) :
    (i * x1 + s * y1) * (i * x1 + s * y1) = d * ((x1 * y1 * (i * x2 + y2)) * (x1 * y1 * (i * x2 + y2))) := by
  unfold OnC at h1 h2
  grind
theorem sq_key' (d x1 y1 x2 y2 i s : Fin n) (hi : i * i = -1) (h1 : OnC d x1 y1) (h2 : OnC d x2 y2) (ht : d * x1 * x2 * y1 * y2 = s) (hs : s * s = 1) :
    (i * x1 - s * y1) * (i * x1 - s * y1) = d * ((x1 * y1 * (i * x2 - y2)) * (x1 * y1 * (i * x2 - y2))) := by
  unfold OnC at h1 h2
  grind
theorem Fld.no_sq {d : Fin n} (h : Fld n d) {a b : Fin n} (hb : b ≠ 0) : a * a ≠ d * (b * b) := fun e => by
  obtain ⟨c, hc⟩ := h.inv b hb
  exact h.nsq (a * c) (by grind)
theorem Fld.den {d : Fin n} (h : Fld n d) {x1 y1 x2 y2 : Fin n} (h1 : OnC d x1 y1) (h2 : OnC d x2 y2) (hs : (d * x1 * x2 * y1 * y2) * (d * x1 * x2 * y1 * y2) = 1) : False := by
  obtain ⟨i, hi⟩ := h.im
  obtain ⟨s, ht⟩ : ∃ s, d * x1 * x2 * y1 * y2 = s := ⟨_, rfl⟩
  rw [ht] at hs
  have hs0 : s ≠ 0 := fun e => h.one (by rw [← hs, e]; grind)
  have hx1 : x1 ≠ 0 := fun e => hs0 (by rw [← ht, e]; grind)
  have hy1 : y1 ≠ 0 := fun e => hs0 (by rw [← ht, e]; grind)
  have hy2 : y2 ≠ 0 := fun e => hs0 (by rw [← ht, e]; grind)
  have k1 := sq_key d x1 y1 x2 y2 i s hi h1 h2 ht hs
  have k2 := sq_key' d x1 y1 x2 y2 i s hi h1 h2 ht hs
  by_cases c1 : i * x2 + y2 = 0
  · by_cases c2 : i * x2 - y2 = 0
    · have : 2 * y2 = 0 := by grind
      rcases h.dom this with e | e
      · exact h.two e
      · exact hy2 e
    · exact h.no_sq (h.mul_ne (h.mul_ne hx1 hy1) c2) k2
  · exact h.no_sq (h.mul_ne (h.mul_ne hx1 hy1) c1) k1
theorem Fld.den1 {d : Fin n} (h : Fld n d) {x1 y1 x2 y2 : Fin n} (h1 : OnC d x1 y1) (h2 : OnC d x2 y2) : 1 + d * x1 * x2 * y1 * y2 ≠ 0 := fun e => h.den h1 h2 (by grind)
theorem Fld.den2 {d : Fin n} (h : Fld n d) {x1 y1 x2 y2 : Fin n} (h1 : OnC d x1 y1) (h2 : OnC d x2 y2) : 1 - d * x1 * x2 * y1 * y2 ≠ 0 := fun e => h.den h1 h2 (by grind)
def IsSum (d x1 y1 x2 y2 x3 y3 : Fin n) : Prop := x3 * (1 + d * x1 * x2 * y1 * y2) = x1 * y2 + y1 * x2 ∧ y3 * (1 - d * x1 * x2 * y1 * y2) = y1 * y2 + x1 * x2
theorem Fld.sum {d : Fin n} (h : Fld n d) {x1 y1 x2 y2 : Fin n} (h1 : OnC d x1 y1) (h2 : OnC d x2 y2) : ∃ x3 y3, IsSum d x1 y1 x2 y2 x3 y3 := by
  obtain ⟨a, ha⟩ := h.inv _ (h.den1 h1 h2)
  obtain ⟨b, hb⟩ := h.inv _ (h.den2 h1 h2)
  exact ⟨(x1 * y2 + y1 * x2) * a, (y1 * y2 + x1 * x2) * b, by unfold IsSum; constructor <;> grind⟩
theorem closed_key (x1 y1 x2 y2 d : Fin n) (e1 : OnC d x1 y1) (e2 : OnC d x2 y2) :
    (y1 * y2 + x1 * x2) * (y1 * y2 + x1 * x2) * ((1 + d * x1 * x2 * y1 * y2) * (1 + d * x1 * x2 * y1 * y2)) - (x1 * y2 + y1 * x2) * (x1 * y2 + y1 * x2) * ((1 - d * x1 * x2 * y1 * y2) * (1 - d * x1 * x2 * y1 * y2))
      = (1 + d * x1 * x2 * y1 * y2) * (1 + d * x1 * x2 * y1 * y2) * ((1 - d * x1 * x2 * y1 * y2) * (1 - d * x1 * x2 * y1 * y2)) + d * (y1 * y2 + x1 * x2) * (y1 * y2 + x1 * x2) * ((x1 * y2 + y1 * x2) * (x1 * y2 + y1 * x2)) := by
  unfold OnC at e1 e2
  grind
theorem Fld.closed {d : Fin n} (h : Fld n d) {x1 y1 x2 y2 x3 y3 : Fin n} (h1 : OnC d x1 y1) (h2 : OnC d x2 y2) (hs : IsSum d x1 y1 x2 y2 x3 y3) : OnC d x3 y3 := by
  have k := closed_key x1 y1 x2 y2 d h1 h2
  have n1 := h.den1 h1 h2
  have n2 := h.den2 h1 h2
  obtain ⟨s1, s2⟩ := hs
  rw [← s1, ← s2] at k
  generalize 1 + d * x1 * x2 * y1 * y2 = a at *
  generalize 1 - d * x1 * x2 * y1 * y2 = b at *
  unfold OnC
  refine h.cancel (h.mul_ne (h.mul_ne n1 n1) (h.mul_ne n2 n2)) ?_
  clear s1 s2 n1 n2 h1 h2
  grind
theorem Fld.uniq {d : Fin n} (h : Fld n d) {x1 y1 x2 y2 x3 y3 x4 y4 : Fin n} (h1 : OnC d x1 y1) (h2 : OnC d x2 y2) (hs : IsSum d x1 y1 x2 y2 x3 y3) (hs' : IsSum d x1 y1 x2 y2 x4 y4) : x3 = x4 ∧ y3 = y4 :=
  ⟨h.cancel (h.den1 h1 h2) (hs.1.trans hs'.1.symm), h.cancel (h.den2 h1 h2) (hs.2.trans hs'.2.symm)⟩
theorem IsSum.comm {d x1 y1 x2 y2 x3 y3 : Fin n} (h : IsSum d x1 y1 x2 y2 x3 y3) : IsSum d x2 y2 x1 y1 x3 y3 := by
  unfold IsSum at *
  constructor <;> grind
theorem IsSum.zero (d x y : Fin n) : IsSum d x y 0 1 x y := by unfold IsSum; constructor <;> grind
theorem IsSum.neg {d x y : Fin n} (h : OnC d x y) : IsSum d x y (-x) y 0 1 := by unfold IsSum OnC at *; constructor <;> grind
theorem OnC.neg {d x y : Fin n} (h : OnC d x y) : OnC d (-x) y := by unfold OnC at *; grind
theorem OnC.zero (d : Fin n) : OnC d 0 1 := by unfold OnC; grind
theorem assocX (x1 y1 x2 y2 x3 y3 d : Fin n) (e1 : OnC d x1 y1) (e2 : OnC d x2 y2) (e3 : OnC d x3 y3) :
    ((x1 * y2 + y1 * x2) * y3 * (1 - d * x1 * x2 * y1 * y2) + (y1 * y2 + x1 * x2) * x3 * (1 + d * x1 * x2 * y1 * y2)) * ((1 - d * x2 * x3 * y2 * y3) * (1 + d * x2 * x3 * y2 * y3) + d * x1 * y1 * (x2 * y3 + y2 * x3) * (y2 * y3 + x2 * x3))
      = (x1 * (y2 * y3 + x2 * x3) * (1 + d * x2 * x3 * y2 * y3) + y1 * (x2 * y3 + y2 * x3) * (1 - d * x2 * x3 * y2 * y3)) * ((1 - d * x1 * x2 * y1 * y2) * (1 + d * x1 * x2 * y1 * y2) + d * (x1 * y2 + y1 * x2) * (y1 * y2 + x1 * x2) * x3 * y3) := by
  unfold OnC at e1 e2 e3
  grind
theorem assocY (x1 y1 x2 y2 x3 y3 d : Fin n) (e1 : OnC d x1 y1) (e2 : OnC d x2 y2) (e3 : OnC d x3 y3) :
    ((y1 * y2 + x1 * x2) * y3 * (1 + d * x1 * x2 * y1 * y2) + (x1 * y2 + y1 * x2) * x3 * (1 - d * x1 * x2 * y1 * y2)) * ((1 - d * x2 * x3 * y2 * y3) * (1 + d * x2 * x3 * y2 * y3) - d * x1 * y1 * (x2 * y3 + y2 * x3) * (y2 * y3 + x2 * x3))
      = (y1 * (y2 * y3 + x2 * x3) * (1 + d * x2 * x3 * y2 * y3) + x1 * (x2 * y3 + y2 * x3) * (1 - d * x2 * x3 * y2 * y3)) * ((1 - d * x1 * x2 * y1 * y2) * (1 + d * x1 * x2 * y1 * y2) - d * (x1 * y2 + y1 * x2) * (y1 * y2 + x1 * x2) * x3 * y3) := by
  unfold OnC at e1 e2 e3
  grind
theorem Fld.assoc {d : Fin n} (h : Fld n d) {x1 y1 x2 y2 x3 y3 u v r s lx ly rx ry : Fin n} (h1 : OnC d x1 y1) (h2 : OnC d x2 y2) (h3 : OnC d x3 y3)
    (h12 : IsSum d x1 y1 x2 y2 u v) (h23 : IsSum d x2 y2 x3 y3 r s) (hl : IsSum d u v x3 y3 lx ly) (hr : IsSum d x1 y1 r s rx ry) : lx = rx ∧ ly = ry := by
  have c12 := h.closed h1 h2 h12
  have c23 := h.closed h2 h3 h23
  have kx := assocX x1 y1 x2 y2 x3 y3 d h1 h2 h3
  have ky := assocY x1 y1 x2 y2 x3 y3 d h1 h2 h3
  have n1 := h.den1 h1 h2
  have n2 := h.den2 h1 h2
  have n3 := h.den1 h2 h3
  have n4 := h.den2 h2 h3
  have m1 := h.den1 c12 h3
  have m2 := h.den2 c12 h3
  have m3 := h.den1 h1 c23
  have m4 := h.den2 h1 c23
  obtain ⟨s1, s2⟩ := h12
  obtain ⟨s3, s4⟩ := h23
  obtain ⟨l1, l2⟩ := hl
  obtain ⟨r1, r2⟩ := hr
  rw [← s1, ← s2, ← s3, ← s4] at kx ky
  generalize 1 + d * x1 * x2 * y1 * y2 = a at *
  generalize 1 - d * x1 * x2 * y1 * y2 = b at *
  generalize 1 + d * x2 * x3 * y2 * y3 = c at *
  generalize 1 - d * x2 * x3 * y2 * y3 = e at *
  have nn := h.mul_ne (h.mul_ne n1 n2) (h.mul_ne n3 n4)
  clear s1 s2 s3 s4 h1 h2 h3 c12 c23 n1 n2 n3 n4
  constructor
  · refine h.cancel (h.mul_ne m1 m3) (h.cancel nn ?_)
    clear l2 r2 ky m2 m4 m1 m3 nn
    have e1 : lx * ((1 + d * u * x3 * v * y3) * (1 + d * x1 * r * y1 * s)) = (u * y3 + v * x3) * (1 + d * x1 * r * y1 * s) := by rw [← l1]; grind
    have e2 : rx * ((1 + d * u * x3 * v * y3) * (1 + d * x1 * r * y1 * s)) = (x1 * s + y1 * r) * (1 + d * u * x3 * v * y3) := by rw [← r1]; grind
    rw [e1, e2]
    clear e1 e2 l1 r1
    grind
  · refine h.cancel (h.mul_ne m2 m4) (h.cancel nn ?_)
    clear l1 r1 kx m1 m3 m2 m4 nn
    have e1 : ly * ((1 - d * u * x3 * v * y3) * (1 - d * x1 * r * y1 * s)) = (v * y3 + u * x3) * (1 - d * x1 * r * y1 * s) := by rw [← l2]; grind
    have e2 : ry * ((1 - d * u * x3 * v * y3) * (1 - d * x1 * r * y1 * s)) = (y1 * s + x1 * r) * (1 - d * u * x3 * v * y3) := by rw [← r2]; grind
    rw [e1, e2]
    clear e1 e2 l2 r2
    grind
def Pt (d : Fin n) := {q : Fin n × Fin n // OnC d q.1 q.2}
theorem Pt.ext {d : Fin n} {P Q : Pt d} (h1 : P.1.1 = Q.1.1) (h2 : P.1.2 = Q.1.2) : P = Q := Subtype.ext (Prod.ext h1 h2)
noncomputable def Pt.add {d : Fin n} (h : Fld n d) (P Q : Pt d) : Pt d := ⟨(Classical.choose (h.sum P.2 Q.2), Classical.choose (Classical.choose_spec (h.sum P.2 Q.2))), h.closed P.2 Q.2 (Classical.choose_spec (Classical.choose_spec (h.sum P.2 Q.2)))⟩
theorem Pt.add_is {d : Fin n} (h : Fld n d) (P Q : Pt d) : IsSum d P.1.1 P.1.2 Q.1.1 Q.1.2 (P.add h Q).1.1 (P.add h Q).1.2 := Classical.choose_spec (Classical.choose_spec (h.sum P.2 Q.2))
theorem Pt.add_eq {d : Fin n} (h : Fld n d) {P Q R : Pt d} (hs : IsSum d P.1.1 P.1.2 Q.1.1 Q.1.2 R.1.1 R.1.2) : P.add h Q = R := by
  have := h.uniq P.2 Q.2 (P.add_is h Q) hs
  exact Pt.ext this.1 this.2
def Pt.zero (d : Fin n) : Pt d := ⟨(0, 1), OnC.zero d⟩
def Pt.neg {d : Fin n} (P : Pt d) : Pt d := ⟨(-P.1.1, P.1.2), P.2.neg⟩
theorem Pt.comm {d : Fin n} (h : Fld n d) (P Q : Pt d) : P.add h Q = Q.add h P := Pt.add_eq h (Q.add_is h P).comm
theorem Pt.assoc {d : Fin n} (h : Fld n d) (P Q R : Pt d) : (P.add h Q).add h R = P.add h (Q.add h R) := by
  have := h.assoc P.2 Q.2 R.2 (P.add_is h Q) (Q.add_is h R) ((P.add h Q).add_is h R) (P.add_is h (Q.add h R))
  exact Pt.ext this.1 this.2
theorem Pt.add_zero {d : Fin n} (h : Fld n d) (P : Pt d) : P.add h (Pt.zero d) = P := Pt.add_eq h (IsSum.zero d P.1.1 P.1.2)
theorem Pt.zero_add {d : Fin n} (h : Fld n d) (P : Pt d) : (Pt.zero d).add h P = P := by rw [Pt.comm, Pt.add_zero]
theorem Pt.add_neg {d : Fin n} (h : Fld n d) (P : Pt d) : P.add h P.neg = Pt.zero d := Pt.add_eq h (IsSum.neg P.2)
noncomputable def Pt.mul {d : Fin n} (h : Fld n d) (P : Pt d) : Nat → Pt d
  | 0 => Pt.zero d
  | k + 1 => (P.mul h k).add h P
theorem Pt.mul_add {d : Fin n} (h : Fld n d) (P : Pt d) (a : Nat) : ∀ b, P.mul h (a + b) = (P.mul h a).add h (P.mul h b)
  | 0 => by rw [Nat.add_zero, Pt.mul, Pt.add_zero]
  | b + 1 => by rw [← Nat.add_assoc, Pt.mul, Pt.mul_add h P a b, Pt.assoc, Pt.mul]
theorem Pt.mul_one {d : Fin n} (h : Fld n d) (P : Pt d) : P.mul h 1 = P := by rw [Pt.mul, Pt.mul, Pt.zero_add]
theorem Pt.mul_two {d : Fin n} (h : Fld n d) (P : Pt d) : P.mul h 2 = P.add h P := by rw [Pt.mul, Pt.mul_one]
theorem Pt.mul_mul {d : Fin n} (h : Fld n d) (P : Pt d) (a : Nat) : ∀ b, P.mul h (a * b) = (P.mul h a).mul h b
  | 0 => rfl
  | b + 1 => by rw [Nat.mul_succ, Pt.mul_add, Pt.mul_mul h P a b, Pt.mul]
theorem Pt.zero_mul {d : Fin n} (h : Fld n d) : ∀ k, (Pt.zero d).mul h k = Pt.zero d
  | 0 => rfl
  | k + 1 => by rw [Pt.mul, Pt.zero_mul h k, Pt.add_zero]
theorem Pt.mul_mod {d : Fin n} (h : Fld n d) (P : Pt d) (L : Nat) (hL : P.mul h L = Pt.zero d) (a : Nat) : P.mul h (a % L) = P.mul h a := by
  conv => rhs; rw [← Nat.mod_add_div a L]
  rw [Pt.mul_add, Pt.mul_mul, hL, Pt.zero_mul, Pt.add_zero]
theorem Pt.cancel {d : Fin n} (h : Fld n d) {P Q R : Pt d} (e : P.add h R = Q.add h R) : P = Q := by
  have e2 := congrArg (fun S => Pt.add h S R.neg) e
  simp only [Pt.assoc, Pt.add_neg, Pt.add_zero] at e2
  exact e2
def Rep (d X Y Z T : Fin n) (P : Pt d) : Prop := Z ≠ 0 ∧ X = P.1.1 * Z ∧ Y = P.1.2 * Z ∧ T = P.1.1 * P.1.2 * Z
theorem Rep.add {d : Fin n} (h : Fld n d) {X1 Y1 Z1 T1 X2 Y2 Z2 T2 : Fin n} {P Q : Pt d} (h1 : Rep d X1 Y1 Z1 T1 P) (h2 : Rep d X2 Y2 Z2 T2 Q) (A B C E F G H I : Fin n)
    (hA : A = (Y1 - X1) * (Y2 - X2)) (hB : B = (Y1 + X1) * (Y2 + X2)) (hC : C = T1 * T2 * d * 2) (hE : E = Z1 * Z2 * 2) (hF : F = B - A) (hG : G = E - C) (hH : H = E + C) (hI : I = B + A) :
    Rep d (F * G) (H * I) (G * H) (F * I) (P.add h Q) := by
  obtain ⟨z1, x1, y1, t1⟩ := h1
  obtain ⟨z2, x2, y2, t2⟩ := h2
  obtain ⟨s1, s2⟩ := P.add_is h Q
  have n1 := h.den1 P.2 Q.2
  have n2 := h.den2 P.2 Q.2
  unfold Rep
  generalize (P.add h Q).1.1 = x3 at *
  generalize (P.add h Q).1.2 = y3 at *
  generalize P.1.1 = px at *
  generalize P.1.2 = py at *
  generalize Q.1.1 = qx at *
  generalize Q.1.2 = qy at *
  have eG : G = 2 * Z1 * Z2 * (1 - d * px * qx * py * qy) := by subst_vars; grind
  have eH : H = 2 * Z1 * Z2 * (1 + d * px * qx * py * qy) := by subst_vars; grind
  have eF : F = 2 * Z1 * Z2 * (px * qy + py * qx) := by subst_vars; grind
  have eI : I = 2 * Z1 * Z2 * (py * qy + px * qx) := by subst_vars; grind
  have nz : (2 * Z1 * Z2 : Fin n) ≠ 0 := h.mul_ne (h.mul_ne h.two z1) z2
  clear hA hB hC hE hF hG hH hI x1 y1 t1 x2 y2 t2
  refine ⟨by rw [eG, eH]; exact h.mul_ne (h.mul_ne nz n2) (h.mul_ne nz n1), ?_, ?_, ?_⟩
  · show F * G = x3 * (G * H)
    rw [eF, eG, eH, ← s1]
    generalize 1 + d * px * qx * py * qy = a
    generalize 1 - d * px * qx * py * qy = b
    grind
  · show H * I = y3 * (G * H)
    rw [eI, eG, eH, ← s2]
    generalize 1 + d * px * qx * py * qy = a
    generalize 1 - d * px * qx * py * qy = b
    grind
  · show F * I = x3 * y3 * (G * H)
    rw [eI, eG, eH, eF, ← s2, ← s1]
    generalize 1 + d * px * qx * py * qy = a
    generalize 1 - d * px * qx * py * qy = b
    grind
theorem Rep.addR {d : Fin n} (h : Fld n d) {X1 Y1 Z1 T1 X2 Y2 Z2 T2 : Fin n} {P Q : Pt d} (h1 : Rep d X1 Y1 Z1 T1 P) (h2 : Rep d X2 Y2 Z2 T2 Q) (xx yy zz tt cross low high sum : Fin n)
    (hx : xx = X1 * X2) (hy : yy = Y1 * Y2) (hz : zz = Z1 * Z2) (ht : tt = T1 * T2 * d) (hc : cross = (X1 + Y1) * (X2 + Y2) - (xx + yy)) (hl : low = zz - tt) (hh : high = zz + tt) (hs : sum = yy + xx) :
    Rep d (cross * low) (high * sum) (low * high) (cross * sum) (P.add h Q) := by
  obtain ⟨z1, x1, y1, t1⟩ := h1
  obtain ⟨z2, x2, y2, t2⟩ := h2
  obtain ⟨s1, s2⟩ := P.add_is h Q
  have n1 := h.den1 P.2 Q.2
  have n2 := h.den2 P.2 Q.2
  unfold Rep
  generalize (P.add h Q).1.1 = x3 at *
  generalize (P.add h Q).1.2 = y3 at *
  generalize P.1.1 = px at *
  generalize P.1.2 = py at *
  generalize Q.1.1 = qx at *
  generalize Q.1.2 = qy at *
  have eG : low = Z1 * Z2 * (1 - d * px * qx * py * qy) := by subst_vars; grind
  have eH : high = Z1 * Z2 * (1 + d * px * qx * py * qy) := by subst_vars; grind
  have eF : cross = Z1 * Z2 * (px * qy + py * qx) := by subst_vars; grind
  have eI : sum = Z1 * Z2 * (py * qy + px * qx) := by subst_vars; grind
  have nz : (Z1 * Z2 : Fin n) ≠ 0 := h.mul_ne z1 z2
  clear hx hy hz ht hc hl hh hs x1 y1 t1 x2 y2 t2
  refine ⟨by rw [eG, eH]; exact h.mul_ne (h.mul_ne nz n2) (h.mul_ne nz n1), ?_, ?_, ?_⟩
  · show cross * low = x3 * (low * high)
    rw [eF, eG, eH, ← s1]
    generalize 1 + d * px * qx * py * qy = a
    generalize 1 - d * px * qx * py * qy = b
    grind
  · show high * sum = y3 * (low * high)
    rw [eI, eG, eH, ← s2]
    generalize 1 + d * px * qx * py * qy = a
    generalize 1 - d * px * qx * py * qy = b
    grind
  · show cross * sum = x3 * y3 * (low * high)
    rw [eI, eG, eH, eF, ← s2, ← s1]
    generalize 1 + d * px * qx * py * qy = a
    generalize 1 - d * px * qx * py * qy = b
    grind
end
end Go.Proofs.YtbmnkchcekacfaaDoor.P
end

section
set_option linter.unusedVariables false
set_option linter.unusedSimpArgs false
namespace Go.Proofs.YtbmnkchcekacfaaDoorW.PrintWords
open Go.RowKit
structure Aside0 (p : Prop) : Prop where mk :: (out : p)
structure Drawn0 (w w' : World) : Prop where mk :: (out : ∃ n, w' = w.drewN n)
theorem Drawn0.refl (w : World) : Drawn0 w w := ⟨⟨0, rfl⟩⟩
theorem Drawn0.step {w w' : World} (h : Drawn0 w w') (n : Nat) : Drawn0 w (w'.drewN n) := by
  obtain ⟨m, rfl⟩ := h
  exact ⟨⟨m + n, World.drewN_drewN ..⟩⟩
theorem Drawn0.grown {w w' : World} (h : Drawn0 w w') : Grown w w' := by
  obtain ⟨n, rfl⟩ := h
  induction n with
  | zero => exact Grown.refl _
  | succ n ih => rw [← World.drew_drewN]; exact Grown.drew ih
theorem Drawn0.below {w w' : World} (h : Drawn0 w w') : Below w.heap.size w w' := by
  obtain ⟨n, rfl⟩ := h
  induction n with
  | zero => exact Below.refl _ _
  | succ n ih => rw [← World.drew_drewN]; exact ih.drew
def nums (k : IntKind) (xs : List Int) : List Value := xs.map fun x => .int k x
theorem below_alloc {w W : World} (h : Below w.heap.size w W) (o : Obj) : Below w.heap.size w (W.alloc o) := h.alloc h.size o
theorem below_drew {B : Nat} {w W : World} (h : Below B w W) : Below B w W.drew := ⟨h.os, h.tape, h.output, h.size, h.block⟩
theorem grown_of_below {w w1 : World} (h : Below w.heap.size w w1) (row : Option Nat) : w.grownBy w1 row := ⟨h.os, h.tape, h.output, h.size, fun i hi _ => h.block i hi⟩
theorem pw_cell_below {w w1 : World} (h : Below w.heap.size w w1) {a : Addr} {v : Value} (hc : w.cell? a = some v) : w1.cell? a = some v := (h.cell (World.block_lt_of_cell? w a hc)).trans hc
def ReadsInt (w : World) (k : IntKind) (A : Option Addr) (n : Nat) (xs : List Int) : Prop :=
  xs.length = n ∧ n ≤ 9223372036854775807 ∧ (0 < n → ∃ ad, A = some ad ∧ ∀ j, j < n → w.cell? (ad.add j) = some (.int k (xs.getD j 0)))
theorem ReadsInt.below {w w1 : World} {k : IntKind} {A : Option Addr} {n : Nat} {xs : List Int} (h : ReadsInt w k A n xs) (hb : Below w.heap.size w w1) : ReadsInt w1 k A n xs :=
  ⟨h.1, h.2.1, fun hn => by
    obtain ⟨ad, e, hc⟩ := h.2.2 hn
    exact ⟨ad, e, fun j hj => pw_cell_below hb (hc j hj)⟩⟩
theorem own_nil (W : World) (base : Nat) (e : TypeId) (size : Nat) : W.ownsRow base e size (.slice none 0 0) 0 [] := ⟨by simp, .inl ⟨rfl, rfl⟩⟩
theorem own_base {w : World} {base : Nat} {e : TypeId} {size n : Nat} {v : Value} {xs : List Value} (h : w.ownsRow base e size v n xs) (k : Nat) (hk : v.ownBlock = some k) : base ≤ k := by
  rcases h.2 with ⟨rfl, _⟩ | ⟨g, cap, cur, rfl, hb, _⟩
  · simp [Value.ownBlock] at hk
  · have : g = k := by simpa [Value.ownBlock] using hk
    omega
theorem own_lt {w : World} {base : Nat} {e : TypeId} {size n : Nat} {v : Value} {xs : List Value} (h : w.ownsRow base e size v n xs) (k : Nat) (hk : v.ownBlock = some k) : k < w.heap.size := by
  rcases h.2 with ⟨rfl, _⟩ | ⟨g, cap, cur, rfl, hb, hh, _⟩
  · simp [Value.ownBlock] at hk
  · have : g = k := by simpa [Value.ownBlock] using hk
    subst this
    exact (Array.getElem?_eq_some_iff.1 hh).1
theorem pw_own_below {w w1 : World} {base : Nat} {e : TypeId} {size n : Nat} {v : Value} {xs : List Value} (h : w.ownsRow base e size v n xs) (hb : Below w.heap.size w w1) : w1.ownsRow base e size v n xs :=
  h.kept (grown_of_below hb none) (by cases v.ownBlock <;> simp)
theorem own_other {w w1 : World} {base : Nat} {e : TypeId} {size n : Nat} {v : Value} {xs : List Value} (h : w.ownsRow base e size v n xs) {row : Option Nat} (hg : w.grownBy w1 row) (hne : v.ownBlock = none ∨ v.ownBlock ≠ row) : w1.ownsRow base e size v n xs := h.kept hg hne
theorem own_string {P : Program} {w : World} {base n : Nat} {e' src dst e : TypeId} {v : Value} {xs : List Int} (hs : P.underlying src = some (.slice e)) (he : P.underlying e = some (.int .u8)) (hd : P.underlying dst = some .string)
    (h : w.ownsRow base e' 1 v n (nums .u8 xs)) : (convert src dst v).run P w = .ok (.string (strOfNums xs)) w := by
  have hl : xs.length = n := by have := h.1; simp [nums] at this; exact this
  rcases h.2 with ⟨rfl, rfl⟩ | ⟨g, cap, cur, rfl, _⟩
  · obtain rfl : xs = [] := List.eq_nil_of_length_eq_zero hl
    exact run_convert_bytes_nil w src e hs he 0 0 dst hd
  · refine run_convert_bytes_arg w src e hs he g 0 n cap xs hl (fun i hi => ?_) dst hd
    have hc := h.cells (g := g) rfl i (.int .u8 (xs.getD i 0)) (by simp [nums, List.getElem?_eq_getElem (show i < xs.length by omega), List.getD_eq_getElem?_getD])
    have ha : (⟨g, 0, none⟩ : Addr).add i = ⟨g, 0 + i, none⟩ := by unfold Addr.add; split <;> simp_all
    rwa [ha] at hc
def bytesOf (s : ByteArray) : List Int := s.data.toList.map fun b => (b.toNat : Int)
theorem ReadsInt.take_ {w : World} {k : IntKind} {A : Option Addr} {n : Nat} {xs : List Int} (h : ReadsInt w k A n xs) (i : Nat) (hi : i ≤ n) : ReadsInt w k A i (xs.take i) := by
  refine ⟨by rw [List.length_take, h.1]; omega, by have := h.2.1; omega, fun hp => ?_⟩
  obtain ⟨ad, e, hc⟩ := h.2.2 (by omega)
  refine ⟨ad, e, fun j hj => ?_⟩
  rw [hc j (by omega)]
  simp [List.getD_eq_getElem?_getD, hj]
def LeO {α : Type} (a b : Option α) : Prop := ∀ r, a = some r → b = some r
theorem LeO.refl {α : Type} (a : Option α) : LeO a a := fun _ h => h
theorem LeO.none {α : Type} (b : Option α) : LeO Option.none b := fun _ h => by cases h
theorem LeO.trans {α : Type} {a b c : Option α} (h : LeO a b) (k : LeO b c) : LeO a c := fun r hr => k r (h r hr)
theorem LeO.bind {α β : Type} {a a' : Option α} {f f' : α → Option β} (h : LeO a a') (k : ∀ x, LeO (f x) (f' x)) : LeO (a.bind f) (a'.bind f') := by
  intro r hr
  obtain ⟨x, hx, hf⟩ := Option.bind_eq_some_iff.1 hr
  exact Option.bind_eq_some_iff.2 ⟨x, h x hx, k x r hf⟩
theorem LeO.map {α β : Type} {a a' : Option α} (f : α → β) (h : LeO a a') : LeO (a.map f) (a'.map f) := by
  intro r hr
  obtain ⟨x, hx, hf⟩ := Option.map_eq_some_iff.1 hr
  exact Option.map_eq_some_iff.2 ⟨x, h x hx, hf⟩
theorem more_rounds {α : Type} {g : Nat → Option α} (h : ∀ k, LeO (g k) (g (k + 1))) (k : Nat) : ∀ j, LeO (g k) (g (k + j))
  | 0 => LeO.refl _
  | j + 1 => (more_rounds h k j).trans (h (k + j))
theorem at_rounds {α : Type} {g : Nat → Option α} (h : ∀ k, LeO (g k) (g (k + 1))) {k k' : Nat} (hk : k ≤ k') {r : α} (hr : g k = some r) : g k' = some r := by
  have := more_rounds h k (k' - k) r hr
  rwa [Nat.add_sub_cancel' hk] at this
def Reps {α : Type} (R : α → List Value → Prop) (size : Nat) (ps : List α) (cs : List Value) : Prop :=
  cs.length = ps.length * size ∧ ∀ j p, ps[j]? = some p → R p ((cs.drop (j * size)).take size)
theorem Reps.none {α : Type} (R : α → List Value → Prop) (size : Nat) : Reps R size [] [] := ⟨by simp, fun j p h => by simp at h⟩
theorem Reps.snoc {α : Type} {R : α → List Value → Prop} {size : Nat} {ps : List α} {cs c : List Value} {p : α} (h : Reps R size ps cs) (hp : R p c) (hc : c.length = size) : Reps R size (ps ++ [p]) (cs ++ c) := by
  refine ⟨by rw [List.length_append, h.1, hc, List.length_append, List.length_singleton, Nat.add_mul, Nat.one_mul], fun j q hq => ?_⟩
  rcases Nat.lt_or_ge j ps.length with hj | hj
  · rw [List.getElem?_append_left hj] at hq
    have h1 : j * size + size ≤ cs.length := by rw [h.1, ← Nat.succ_mul]; exact Nat.mul_le_mul_right _ hj
    have h2 := h.2 j q hq
    rw [List.drop_append_of_le_length (by omega), List.take_append_of_le_length (by rw [List.length_drop]; omega)]
    exact h2
  · have hj' : j = ps.length := by
      have := (List.getElem?_eq_some_iff.1 hq).1
      rw [List.length_append, List.length_singleton] at this
      omega
    subst hj'
    have hq' : p = q := by simpa using hq
    subst hq'
    rw [← h.1, List.drop_left, ← hc, List.take_length]
    exact hp
theorem Reps.imp_ {α : Type} {R R' : α → List Value → Prop} {size : Nat} {ps : List α} {cs : List Value} (h : Reps R size ps cs) (hR : ∀ p c, R p c → R' p c) : Reps R' size ps cs := ⟨h.1, fun j p hj => hR _ _ (h.2 j p hj)⟩
def ReadsRow {α : Type} (R : α → List Value → Prop) (size : Nat) (w : World) (A : Option Addr) (n : Nat) (ps : List α) : Prop :=
  ps.length = n ∧ n ≤ 9223372036854775807 ∧ (0 < n → ∃ ad, A = some ad ∧ ∀ j p, ps[j]? = some p → ∃ c, c.length = size ∧ R p c ∧ ∀ i u, c[i]? = some u → w.cell? (ad.add (j * size + i)) = some u)
theorem ReadsRow.imp_ {α : Type} {R R' : α → List Value → Prop} {size : Nat} {w w1 : World} {A : Option Addr} {n : Nat} {ps : List α} (h : ReadsRow R size w A n ps) (hb : Below w.heap.size w w1) (hR : ∀ p c, R p c → R' p c) : ReadsRow R' size w1 A n ps :=
  ⟨h.1, h.2.1, fun hn => by
    obtain ⟨ad, e, hc⟩ := h.2.2 hn
    refine ⟨ad, e, fun j p hj => ?_⟩
    obtain ⟨c, hs, hr, hcell⟩ := hc j p hj
    exact ⟨c, hs, hR _ _ hr, fun i u hu => pw_cell_below hb (hcell i u hu)⟩⟩
theorem own_reads_row {α : Type} {R : α → List Value → Prop} {w : World} {base n size : Nat} {e : TypeId} {v : Value} {ps : List α} {cs : List Value} (h : w.ownsRow base e size v n cs) (hR : Reps R size ps cs) (hn : ps.length = n) :
    ∃ A c, v = .slice A n c ∧ ReadsRow R size w A n ps := by
  rcases Nat.eq_zero_or_pos n with h0 | h0
  · rcases h.2 with ⟨rfl, rfl⟩ | ⟨g, cap, cur, rfl, _⟩
    · exact ⟨none, 0, rfl, hn, by omega, fun hp => absurd hp (by omega)⟩
    · exact ⟨_, cap, rfl, hn, by omega, fun hp => absurd hp (by omega)⟩
  · obtain ⟨g, cap, rfl, _, _⟩ := h.form h0
    have hm : n ≤ 9223372036854775807 := by
      rcases h.2 with ⟨_, h1⟩ | ⟨g', cap', cur, he, _, _, h1, h2, _⟩
      · omega
      · simp only [maxLen] at h2
        omega
    refine ⟨_, cap, rfl, hn, hm, fun _ => ⟨_, rfl, fun j p hj => ⟨(cs.drop (j * size)).take size, ?_, hR.2 j p hj, fun i u hu => ?_⟩⟩⟩
    · have hjl := (List.getElem?_eq_some_iff.1 hj).1
      have h1 : j * size + size ≤ cs.length := by rw [hR.1, ← Nat.succ_mul]; exact Nat.mul_le_mul_right _ hjl
      rw [List.length_take, List.length_drop]
      omega
    · refine h.cells (g := g) rfl _ u ?_
      rw [List.getElem?_take] at hu
      split at hu
      · rw [List.getElem?_drop] at hu
        exact hu
      · cases hu
section
variable {P : Program} {ops : Array Oper} {rest : List Oper} {o : Oper} {a : Act} {Q : Exit → Act → World → Prop}
theorem print_append_cells {w0 W : World} (base : Nat) (hgd : o.guard = none) (s x : Operand) (t e : TypeId) (z : Value) (size bytes : Nat)
    (ho : o.op = .call { callee := .builtin .append, args := #[s, x], argTypes := #[t, t] })
    (ht : P.underlying t = some (.slice e)) (hinfo : (P.info? e).map (fun i => (i.zero, i.size, i.bytes)) = some (some z, size, bytes)) (hz : z.cells.size = size) (hs0 : 0 < size) (hb0 : 0 < bytes)
    (v : Value) (n : Nat) (xs ys : List Value) (hs : a.eval s = v) (hx : a.eval x = .slice (some ⟨W.heap.size, 0, none⟩) 1 1) (hys : ys.length = size) (h1 : ∀ u ∈ ys, u.oneCell' = true)
    (HO : W.ownsRow base e size v n xs) (HB : Below base w0 W) (hbase : base ≤ W.heap.size) (hl : (n + 1) * bytes ≤ 140737488355328)
    (h : ∀ v1 w1, w1.ownsRow base e size v1 (n + 1) (xs ++ ys) → Below base w0 w1 → W.grownBy w1 v.ownBlock → (v1.ownBlock = v.ownBlock ∨ ∃ b, v1.ownBlock = some b ∧ W.heap.size ≤ b) → wpList P ops Q rest (a.put o.dst v1) w1) :
    wpList P ops Q (o :: rest) a (W.alloc (.cells ys.toArray e)) := by
  obtain ⟨i0, hi, hzz⟩ := Option.map_eq_some_iff.1 hinfo
  simp only [Prod.mk.injEq] at hzz
  obtain ⟨hz0, hz1, hz2⟩ := hzz
  have hlen : n + 1 ≤ 140737488355328 := Nat.le_trans (Nat.le_mul_of_pos_right _ hb0) hl
  refine wpList_append_own_at (W.alloc (.cells ys.toArray e)) hgd s x t ho base e i0 z size bytes ht hi hz0 hz1 hz2 hz hs0 v n xs hs (HO.alloc _) ⟨W.heap.size, 0, none⟩ 1 1 ys hx (by rw [hys]; simp)
    (by simpa using World.news_of_block (cs := ys.toArray) (t := e) (fr := (0, 0)) (heap_alloc_new W (.cells ys.toArray e))) h1 (by simp only [maxLen]; omega) hl (by simp; omega) ?_
  intro v1 w1 hown hg _ hat
  refine h v1 w1 hown ((HB.alloc hbase _).grown hg (by simp; omega) (own_base HO)) (World.grownBy.trans (World.grownBy_alloc W _ _) hg) ?_
  rcases hat with hat | hat
  · exact .inl hat
  · exact .inr ⟨_, hat, by simp⟩
end
theorem own_ne {w : World} {base : Nat} {e t : TypeId} {size n g : Nat} {v : Value} {xs : List Value} {cs : Array Value} (h : w.ownsRow base e size v n xs) (hg : w.heap[g]? = some (.cells cs t (0, 0))) (hne : e ≠ t) : some g ≠ v.ownBlock := by
  rcases h.2 with ⟨rfl, _⟩ | ⟨g', cap, cur, rfl, _, hh, _⟩
  · simp [Value.ownBlock]
  · intro he
    have : g = g' := by simpa [Value.ownBlock] using he
    subst this
    rw [hg] at hh
    injection hh with hh
    injection hh with _ ht
    exact hne ht.symm
theorem blk_set {w : World} {g : Nat} {t : TypeId} {cs : Array Value} (h : w.heap[g]? = some (.cells cs t (0, 0))) (i : Nat) (u : Value) : (w.setCell ⟨g, i, none⟩ u).heap[g]? = some (.cells (cs.setIfInBounds i u) t (0, 0)) := by
  simp [World.setCell, Array.getElem?_modify, h]
theorem blk_lt {w : World} {g : Nat} {o : Obj} (h : w.heap[g]? = some o) : g < w.heap.size := (Array.getElem?_eq_some_iff.1 h).1
def KeepBut (w w' : World) (g : Nat) (row : Option Nat) : Prop := w.heap.size ≤ w'.heap.size ∧ ∀ i, i < w.heap.size → i ≠ g → some i ≠ row → w'.heap[i]? = w.heap[i]?
theorem KeepBut.refl (w : World) (g : Nat) (row : Option Nat) : KeepBut w w g row := ⟨Nat.le_refl _, fun _ _ _ _ => rfl⟩
theorem KeepBut.of_below {w w1 : World} (h : Below w.heap.size w w1) (g : Nat) (row : Option Nat) : KeepBut w w1 g row := ⟨h.size, fun i hi _ _ => h.block i hi⟩
theorem KeepBut.trans {w w1 w2 : World} {g : Nat} {row row1 : Option Nat} (h : KeepBut w w1 g row) (k : KeepBut w1 w2 g row1) (hr : row1 = row ∨ ∃ b, row1 = some b ∧ w.heap.size ≤ b) : KeepBut w w2 g row :=
  ⟨Nat.le_trans h.1 k.1, fun i hi hg hn => by
    refine (k.2 i (Nat.lt_of_lt_of_le hi h.1) hg ?_).trans (h.2 i hi hg hn)
    rcases hr with rfl | ⟨b, rfl, hb⟩
    · exact hn
    · intro e
      injection e with e
      omega⟩
theorem KeepBut.blk {w w1 : World} {g g' : Nat} {row : Option Nat} {o : Obj} (h : KeepBut w w1 g row) (hb : w.heap[g']? = some o) (hg : g' ≠ g) (hr : some g' ≠ row) : w1.heap[g']? = some o := (h.2 g' (blk_lt hb) hg hr).trans hb
theorem KeepBut.own {w w1 : World} {g : Nat} {row : Option Nat} {base : Nat} {e : TypeId} {size n : Nat} {v : Value} {xs : List Value} (h : KeepBut w w1 g row) (ho : w.ownsRow base e size v n xs) (hg : v.ownBlock ≠ some g) (hr : v.ownBlock = none ∨ v.ownBlock ≠ row) : w1.ownsRow base e size v n xs := by
  obtain ⟨h1, h2⟩ := ho
  refine ⟨h1, ?_⟩
  rcases h2 with h2 | ⟨b, cap, cur, rfl, hb, hh, r⟩
  · exact .inl h2
  · refine .inr ⟨b, cap, cur, rfl, hb, h.blk hh ?_ ?_, r⟩
    · intro e
      exact hg (by rw [← e]; rfl)
    · rcases hr with hr | hr
      · simp [Value.ownBlock] at hr
      · exact hr
def Ev {α : Type} (g : Nat → Option α) (r : α) : Prop := ∃ K, ∀ k, K ≤ k → g k = some r
theorem Ev.of {α : Type} {g : Nat → Option α} {r : α} (hg : ∀ k, LeO (g k) (g (k + 1))) {k : Nat} (h : g k = some r) : Ev g r := ⟨k, fun _ hk => at_rounds hg hk h⟩
theorem Ev.bind {α β : Type} {g : Nat → Option α} {f : Nat → α → Option β} {a : α} {r : β} (h : Ev g a) (k : Ev (fun n => f n a) r) : Ev (fun n => (g n).bind (f n)) r := by
  obtain ⟨K, h⟩ := h
  obtain ⟨K', k⟩ := k
  refine ⟨max K K', fun n hn => ?_⟩
  have h1 := h n (by omega)
  have h2 := k n (by omega)
  simp only [h1, Option.bind_some]
  exact h2
theorem Ev.step {α : Type} {g f : Nat → Option α} {r : α} (h : ∀ k, g (k + 1) = f k) (k : Ev f r) : Ev g r := by
  obtain ⟨K, k⟩ := k
  refine ⟨K + 1, fun n hn => ?_⟩
  obtain ⟨m, rfl⟩ : ∃ m, n = m + 1 := ⟨n - 1, by omega⟩
  rw [h]
  exact k m (by omega)
theorem Ev.congr {α : Type} {g f : Nat → Option α} {r : α} (h : ∀ k, g k = f k) (k : Ev f r) : Ev g r := by
  obtain ⟨K, k⟩ := k
  exact ⟨K, fun n hn => (h n).trans (k n hn)⟩
theorem own_weaken {w : World} {base base' : Nat} {e : TypeId} {size n : Nat} {v : Value} {xs : List Value} (h : w.ownsRow base e size v n xs) (hb : base' ≤ base) : w.ownsRow base' e size v n xs := by
  obtain ⟨h1, h2⟩ := h
  refine ⟨h1, ?_⟩
  rcases h2 with h2 | ⟨g, cap, cur, rfl, hg, r⟩
  · exact .inl h2
  · exact .inr ⟨g, cap, cur, rfl, Nat.le_trans hb hg, r⟩
section
variable {α : Type} {enc : α → Value} {d : α}
def encs (enc : α → Value) (xs : List α) : List Value := xs.map enc
theorem encs_length (xs : List α) : (encs enc xs).length = xs.length := by simp [encs]
def ReadsOf (enc : α → Value) (d : α) (w : World) (A : Option Addr) (n : Nat) (xs : List α) : Prop :=
  xs.length = n ∧ n ≤ 9223372036854775807 ∧ (0 < n → ∃ ad, A = some ad ∧ ∀ j, j < n → w.cell? (ad.add j) = some (enc (xs.getD j d)))
theorem ReadsOf.below {w w1 : World} {A : Option Addr} {n : Nat} {xs : List α} (h : ReadsOf enc d w A n xs) (hb : Below w.heap.size w w1) : ReadsOf enc d w1 A n xs :=
  ⟨h.1, h.2.1, fun hn => by
    obtain ⟨ad, e, hc⟩ := h.2.2 hn
    exact ⟨ad, e, fun j hj => pw_cell_below hb (hc j hj)⟩⟩
theorem ReadsOf.take_ {w : World} {A : Option Addr} {n : Nat} {xs : List α} (h : ReadsOf enc d w A n xs) (i : Nat) (hi : i ≤ n) : ReadsOf enc d w A i (xs.take i) := by
  refine ⟨by rw [List.length_take, h.1]; omega, by have := h.2.1; omega, fun hp => ?_⟩
  obtain ⟨ad, e, hc⟩ := h.2.2 (by omega)
  refine ⟨ad, e, fun j hj => ?_⟩
  rw [hc j (by omega)]
  simp [List.getD_eq_getElem?_getD, hj]
end
theorem own_le {w : World} {base n m c size : Nat} {e : TypeId} {A : Option Addr} {xs : List Value} (h : w.ownsRow base e size (.slice A m c) n xs) : m ≤ c := by
  rcases h.2 with ⟨he, _⟩ | ⟨g, cap, cur, he, _, _, hnc, _⟩
  · injection he with _ h2 h3
    omega
  · injection he with _ h2 h3
    omega
def OwnRow {α : Type} (R : α → List Value → Prop) (e : TypeId) (size : Nat) (w : World) (base : Nat) (v : Value) (ps : List α) : Prop :=
  ∃ inner, w.ownsRow base e size v ps.length inner ∧ Reps R size ps inner
section
variable {α : Type} {R R' : α → List Value → Prop} {e : TypeId} {size : Nat} {w w1 : World} {base : Nat} {v : Value} {ps : List α}
theorem OwnRow.none_ (R : α → List Value → Prop) (e : TypeId) (size : Nat) (w : World) (base : Nat) : OwnRow R e size w base (.slice none 0 0) [] := ⟨[], own_nil _ _ _ _, Reps.none _ _⟩
theorem OwnRow.imp_ (h : OwnRow R e size w base v ps) (hR : ∀ p c, R p c → R' p c) : OwnRow R' e size w base v ps := by
  obtain ⟨inner, ho, hr⟩ := h
  exact ⟨inner, ho, hr.imp_ hR⟩
theorem OwnRow.below (h : OwnRow R e size w base v ps) (hb : Below w.heap.size w w1) : OwnRow R e size w1 base v ps := by
  obtain ⟨inner, ho, hr⟩ := h
  exact ⟨inner, pw_own_below ho hb, hr⟩
theorem OwnRow.other (h : OwnRow R e size w base v ps) {row : Option Nat} (hg : w.grownBy w1 row) (hne : v.ownBlock = none ∨ v.ownBlock ≠ row) : OwnRow R e size w1 base v ps := by
  obtain ⟨inner, ho, hr⟩ := h
  exact ⟨inner, own_other ho hg hne, hr⟩
theorem OwnRow.keep (h : OwnRow R e size w base v ps) {g : Nat} {t : TypeId} {cells : Array Value} (hb : w.heap[g]? = some (.cells cells t (0, 0))) (ht : e ≠ t) (hk : KeepBut w w1 g none) : OwnRow R e size w1 base v ps := by
  obtain ⟨inner, ho, hr⟩ := h
  exact ⟨inner, hk.own ho (Ne.symm (own_ne ho hb ht)) (by cases v.ownBlock <;> simp), hr⟩
theorem OwnRow.reads (h : OwnRow R e size w base v ps) : ∃ A c, v = .slice A ps.length c ∧ ps.length ≤ c ∧ ReadsRow R size w A ps.length ps := by
  obtain ⟨inner, ho, hr⟩ := h
  obtain ⟨A, c, rfl, hrow⟩ := own_reads_row ho hr rfl
  exact ⟨A, c, rfl, own_le ho, hrow⟩
theorem OwnRow.lit (W : World) (base : Nat) {inner : List Value} (hr : Reps R size ps inner) (hb : base ≤ W.heap.size) (hm : ps.length ≤ 9223372036854775807) :
    OwnRow R e size (W.alloc (.cells inner.toArray e)) base (.slice (some ⟨W.heap.size, 0, none⟩) ps.length ps.length) ps := by
  have h := World.ownsRow_lit (base := base) (e := e) (size := size) W inner.toArray ps.length hb (by simpa [maxLen] using hm) (by simpa using hr.1)
  exact ⟨inner, by simpa using h, hr⟩
end
section
variable {P : Program} {ops : Array Oper} {rest : List Oper} {o : Oper} {a : Act} {Q : Exit → Act → World → Prop} {α : Type} {R : α → List Value → Prop}
theorem OwnRow.append {w0 W : World} (base : Nat) (hgd : o.guard = none) (s x : Operand) (t e : TypeId) (z : Value) (size bytes : Nat)
    (ho : o.op = .call { callee := .builtin .append, args := #[s, x], argTypes := #[t, t] })
    (ht : P.underlying t = some (.slice e)) (hinfo : (P.info? e).map (fun i => (i.zero, i.size, i.bytes)) = some (some z, size, bytes)) (hz : z.cells.size = size) (hs0 : 0 < size) (hb0 : 0 < bytes)
    (v : Value) (ps : List α) (p : α) (cs : List Value) (hs : a.eval s = v) (hx : a.eval x = .slice (some ⟨W.heap.size, 0, none⟩) 1 1) (hp : R p cs) (hcs : cs.length = size) (h1 : ∀ u ∈ cs, u.oneCell' = true)
    (HO : OwnRow R e size W base v ps) (HB : Below base w0 W) (hbase : base ≤ W.heap.size) (hl : (ps.length + 1) * bytes ≤ 140737488355328)
    (h : ∀ v1 w1, OwnRow R e size w1 base v1 (ps ++ [p]) → Below base w0 w1 → W.grownBy w1 v.ownBlock → (v1.ownBlock = v.ownBlock ∨ ∃ b, v1.ownBlock = some b ∧ W.heap.size ≤ b) → wpList P ops Q rest (a.put o.dst v1) w1) :
    wpList P ops Q (o :: rest) a (W.alloc (.cells cs.toArray e)) := by
  obtain ⟨inner, hown, hr⟩ := HO
  refine print_append_cells base hgd s x t e z size bytes ho ht hinfo hz hs0 hb0 v ps.length inner cs hs hx hcs h1 hown HB hbase hl ?_
  intro v1 w1 hown1 hb1 hg1 hat1
  exact h v1 w1 ⟨inner ++ cs, by rw [List.length_append, List.length_singleton]; exact hown1, hr.snoc hp hcs⟩ hb1 hg1 hat1
end
theorem ReadsRow.inner_ {α : Type} {R : α → List Value → Prop} {size : Nat} {w : World} {ad : Addr} {n : Nat} {ps : List α} (h : ReadsRow R size w (some ad) n ps) :
    ∃ inner, Reps R size ps inner ∧ ∀ j u, inner[j]? = some u → w.cell? (ad.add j) = some u := by
  have key : ∀ m, m ≤ ps.length → ∃ inner, Reps R size (ps.take m) inner ∧ ∀ j u, inner[j]? = some u → w.cell? (ad.add j) = some u := by
    intro m
    induction m with
    | zero => exact fun _ => ⟨[], Reps.none _ _, fun j u hu => by simp at hu⟩
    | succ m ih =>
      intro hm
      obtain ⟨inner, hr, hc⟩ := ih (by omega)
      obtain ⟨ad', he, hcell⟩ := h.2.2 (by have := h.1; omega)
      injection he with he
      subst he
      obtain ⟨c, hcl, hp, hcc⟩ := hcell m _ (List.getElem?_eq_getElem (show m < ps.length by omega))
      refine ⟨inner ++ c, ?_, fun j u hu => ?_⟩
      · rw [List.take_succ_eq_append_getElem (show m < ps.length by omega)]
        exact hr.snoc hp hcl
      · have hil : inner.length = m * size := by rw [hr.1, List.length_take, Nat.min_eq_left (by omega)]
        rcases Nat.lt_or_ge j inner.length with hj | hj
        · rw [List.getElem?_append_left hj] at hu
          exact hc j u hu
        · rw [List.getElem?_append_right hj] at hu
          have := hcc (j - inner.length) u hu
          rwa [hil, Nat.add_sub_cancel' (by omega)] at this
  obtain ⟨inner, hr, hc⟩ := key ps.length (Nat.le_refl _)
  rw [List.take_length] at hr
  exact ⟨inner, hr, hc⟩
section
variable {α : Type} {P : Program}
theorem ReadsOf.len_ {enc : α → Value} {d : α} {w : World} {A : Option Addr} {n : Nat} {xs : List α} (h : ReadsOf enc d w A n xs) : ReadsOf enc d w A xs.length xs := by rw [h.1]; exact h
end
structure Kd (α : Type) where
  sz : Nat
  E : List Nat
  K : World → α → List Value → Prop
  M : World → Nat → (Nat → Prop) → α → List Value → Prop
  K_len : ∀ {w x cs}, K w x cs → cs.length = sz
  K_one : ∀ {w x cs}, K w x cs → ∀ u ∈ cs, u.oneCell' = true
  K_below : ∀ {w w1 : World} {x cs}, Below w.heap.size w w1 → K w x cs → K w1 x cs
  K_of_M : ∀ {w base ok x cs}, M w base ok x cs → K w x cs
  M_mono : ∀ {w base ok ok' x cs}, (∀ k, ok k → ok' k) → M w base ok x cs → M w base ok' x cs
  M_bound : ∀ {w : World} {base ok x cs}, M w base ok x cs → M w base (fun k => ok k ∧ base ≤ k ∧ k < w.heap.size ∧ ∃ q, q ∈ E ∧ ∃ cells, w.heap[k]? = some (.cells cells q (0, 0))) x cs
  M_move : ∀ {w w1 : World} {base ok x cs}, (∀ k, ok k → w1.heap[k]? = w.heap[k]?) → M w base ok x cs → M w1 base ok x cs
  M_lower : ∀ {w base base' ok x cs}, base' ≤ base → M w base ok x cs → M w base' ok x cs
theorem own_move {w w1 : World} {base : Nat} {e : TypeId} {size n : Nat} {v : Value} {xs : List Value} (h : w.ownsRow base e size v n xs) (hm : ∀ k, v.ownBlock = some k → w1.heap[k]? = w.heap[k]?) : w1.ownsRow base e size v n xs := by
  obtain ⟨h1, h2⟩ := h
  refine ⟨h1, ?_⟩
  rcases h2 with h2 | ⟨g, cap, cur, rfl, hg, hh, r⟩
  · exact .inl h2
  · exact .inr ⟨g, cap, cur, rfl, hg, (hm g (by simp [Value.ownBlock])).trans hh, r⟩
theorem own_typed {w : World} {base : Nat} {e : TypeId} {size n : Nat} {v : Value} {xs : List Value} (h : w.ownsRow base e size v n xs) (k : Nat) (hk : v.ownBlock = some k) : ∃ cells, w.heap[k]? = some (.cells cells e (0, 0)) := by
  rcases h.2 with ⟨rfl, _⟩ | ⟨g, cap, cur, rfl, hg, hh, r⟩
  · simp [Value.ownBlock] at hk
  · have : g = k := by simpa [Value.ownBlock] using hk
    subst this
    exact ⟨cur, hh⟩
namespace Kd
def C {α : Type} (d : Kd α) (w : World) (A : Option Addr) (n : Nat) (xs : List α) : Prop := ReadsRow (d.K w) d.sz w A n xs
def R {α : Type} (d : Kd α) (e : Nat) (w : World) (base : Nat) (ok : Nat → Prop) (v : Value) (xs : List α) : Prop :=
  (∀ k, v.ownBlock = some k → ok k) ∧ OwnRow (d.M w base (fun k => ok k ∧ some k ≠ v.ownBlock)) e d.sz w base v xs
section
variable {α : Type} {d : Kd α} {e : Nat} {w w1 : World} {base : Nat} {ok ok' : Nat → Prop} {v : Value} {xs : List α}
theorem C_below {A : Option Addr} {n : Nat} (h : d.C w A n xs) (hb : Below w.heap.size w w1) : d.C w1 A n xs := ReadsRow.imp_ h hb (fun _ _ hp => d.K_below hb hp)
theorem R_nil (d : Kd α) (e : Nat) (w : World) (base : Nat) (ok : Nat → Prop) : d.R e w base ok (.slice none 0 0) [] := ⟨fun k hk => by simp [Value.ownBlock] at hk, OwnRow.none_ _ _ _ _ _⟩
theorem R_mono (h : d.R e w base ok v xs) (hok : ∀ k, ok k → ok' k) : d.R e w base ok' v xs := ⟨fun k hk => hok k (h.1 k hk), h.2.imp_ (fun _ _ hp => d.M_mono (fun k hk => ⟨hok k hk.1, hk.2⟩) hp)⟩
theorem R_bound (h : d.R e w base ok v xs) : d.R e w base (fun k => ok k ∧ base ≤ k ∧ k < w.heap.size ∧ ∃ q, q ∈ e :: d.E ∧ ∃ cells, w.heap[k]? = some (.cells cells q (0, 0))) v xs := by
  obtain ⟨h0, inner, ho, hr⟩ := h
  refine ⟨fun k hk => ?_, inner, ho, hr.imp_ (fun _ _ hp => d.M_mono (fun k hk => ?_) (d.M_bound hp))⟩
  · obtain ⟨cells, hc⟩ := own_typed ho k hk
    exact ⟨h0 k hk, own_base ho k hk, own_lt ho k hk, e, List.mem_cons_self, cells, hc⟩
  · obtain ⟨⟨h1, h2⟩, h3, h4, q, hq, hc⟩ := hk
    exact ⟨⟨h1, h3, h4, q, List.mem_cons_of_mem _ hq, hc⟩, h2⟩
theorem R_move (h : d.R e w base ok v xs) (hm : ∀ k, ok k → w1.heap[k]? = w.heap[k]?) : d.R e w1 base ok v xs := by
  obtain ⟨h0, inner, ho, hr⟩ := h
  exact ⟨h0, inner, own_move ho (fun k hk => hm k (h0 k hk)), hr.imp_ (fun _ _ hp => d.M_move (fun k hk => hm k hk.1) hp)⟩
theorem R_lower {base' : Nat} (h : d.R e w base ok v xs) (hb : base' ≤ base) : d.R e w base' ok v xs := by
  obtain ⟨h0, inner, ho, hr⟩ := h
  exact ⟨h0, inner, own_weaken ho hb, hr.imp_ (fun _ _ hp => d.M_lower hb hp)⟩
theorem R_step (h : d.R e w base ok v xs) (hm : ∀ k, ok k → k < w.heap.size → w1.heap[k]? = w.heap[k]?) : d.R e w1 base ok v xs :=
  R_mono (R_move (R_bound h) (fun k hk => hm k hk.1 hk.2.2.1)) (fun _ hk => hk.1)
theorem M_step {x : α} {cs : List Value} (h : d.M w base ok x cs) (hm : ∀ k, ok k → k < w.heap.size → w1.heap[k]? = w.heap[k]?) : d.M w1 base ok x cs :=
  d.M_mono (fun _ hk => hk.1) (d.M_move (fun k hk => hm k hk.1 hk.2.2.1) (d.M_bound h))
theorem R_below (h : d.R e w base ok v xs) (hb : Below w.heap.size w w1) : d.R e w1 base ok v xs := R_step h (fun k _ hk => hb.block k hk)
theorem M_below {x : α} {cs : List Value} (h : d.M w base ok x cs) (hb : Below w.heap.size w w1) : d.M w1 base ok x cs := M_step h (fun k _ hk => hb.block k hk)
theorem R_grown (h : d.R e w base ok v xs) {row : Option Nat} (hg : w.grownBy w1 row) (hok : ∀ k, ok k → some k ≠ row) : d.R e w1 base ok v xs := R_step h (fun k ho hk => hg.block k hk (hok k ho))
theorem R_reads (h : d.R e w base ok v xs) : ∃ A c, v = .slice A xs.length c ∧ xs.length ≤ c ∧ d.C w A xs.length xs := by
  obtain ⟨A, c, he, hl, hr⟩ := OwnRow.reads h.2
  exact ⟨A, c, he, hl, hr.imp_ (Below.refl _ _) (fun _ _ hp => d.K_of_M hp)⟩
theorem R_slice (h : d.R e w base ok v xs) : ∃ A c, v = .slice A xs.length c := by
  obtain ⟨A, c, he, _⟩ := R_reads h
  exact ⟨A, c, he⟩
end
def scalar {α : Type} (enc : α → Value) (h1 : ∀ x, (enc x).oneCell' = true) : Kd α where
  sz := 1
  E := []
  K := fun _ x cs => cs = [enc x]
  M := fun _ _ _ x cs => cs = [enc x]
  K_len := fun h => by rw [h]; rfl
  K_one := fun h u hu => by
    rw [h] at hu
    rw [List.mem_singleton.1 hu]
    exact h1 _
  K_below := fun _ h => h
  K_of_M := fun h => h
  M_mono := fun _ h => h
  M_bound := fun h => h
  M_move := fun _ h => h
  M_lower := fun _ h => h
def int (k : IntKind) : Kd Int := scalar (Value.int k) (fun _ => rfl)
def bool : Kd Bool := scalar Value.bool (fun _ => rfl)
def string : Kd ByteArray := scalar Value.string (fun _ => rfl)
def slice {α : Type} (e : Nat) (d : Kd α) : Kd (List α) where
  sz := 1
  E := e :: d.E
  K := fun w xs cs => ∃ A c, cs = [.slice A xs.length c] ∧ xs.length ≤ c ∧ d.C w A xs.length xs
  M := fun w base ok xs cs => ∃ v, cs = [v] ∧ d.R e w base ok v xs
  K_len := by
    rintro w x cs ⟨A, c, rfl, _⟩
    rfl
  K_one := by
    rintro w x cs ⟨A, c, rfl, _⟩ u hu
    rw [List.mem_singleton.1 hu]
    rfl
  K_below := by
    rintro w w1 x cs hb ⟨A, c, rfl, hl, hr⟩
    exact ⟨A, c, rfl, hl, C_below hr hb⟩
  K_of_M := by
    rintro w base ok x cs ⟨v, rfl, h⟩
    obtain ⟨A, c, rfl, hl, hr⟩ := R_reads h
    exact ⟨A, c, rfl, hl, hr⟩
  M_mono := by
    rintro w base ok ok' x cs hok ⟨v, rfl, h⟩
    exact ⟨v, rfl, R_mono h hok⟩
  M_bound := by
    rintro w base ok x cs ⟨v, rfl, h⟩
    exact ⟨v, rfl, R_bound h⟩
  M_move := by
    rintro w w1 base ok x cs hm ⟨v, rfl, h⟩
    exact ⟨v, rfl, R_move h hm⟩
  M_lower := by
    rintro w base base' ok x cs hb ⟨v, rfl, h⟩
    exact ⟨v, rfl, R_lower h hb⟩
theorem own_of_R {α : Type} {enc : α → Value} {h1 : ∀ x, (enc x).oneCell' = true} {e : Nat} {w : World} {base : Nat} {ok : Nat → Prop} {v : Value} {xs : List α} (h : (scalar enc h1).R e w base ok v xs) : w.ownsRow base e 1 v xs.length (encs enc xs) := by
  obtain ⟨_, inner, ho, hr⟩ := h
  have : inner = encs enc xs := by
    apply List.ext_getElem?
    intro j
    rcases Nat.lt_or_ge j xs.length with hj | hj
    · have h2 := hr.2 j _ (List.getElem?_eq_getElem hj)
      have hl : j < inner.length := by have := hr.1; simp [scalar] at this; omega
      have h3 : (inner.drop (j * 1)).take 1 = [enc xs[j]] := h2
      rw [Nat.mul_one, List.drop_eq_getElem_cons hl] at h3
      have h4 : inner[j] = enc xs[j] := by
        have h5 := congrArg List.head? h3
        rw [List.take_succ_cons] at h5
        exact Option.some.inj h5
      rw [List.getElem?_eq_getElem hl, h4]
      simp [encs, List.getElem?_eq_getElem hj]
    · have h3 : inner.length = xs.length := by have := hr.1; simp [scalar] at this; omega
      rw [List.getElem?_eq_none (by omega), List.getElem?_eq_none (by rw [encs_length]; omega)]
  rw [← this]
  exact ho
end Kd
namespace Kd
structure Mono {α β : Type} (F : Kd α → Kd β) : Prop where
  sz : ∀ d d' : Kd α, d.sz = d'.sz → (F d).sz = (F d').sz
  K : ∀ d d' : Kd α, d.sz = d'.sz → (∀ w x cs, d.K w x cs → d'.K w x cs) → ∀ w x cs, (F d).K w x cs → (F d').K w x cs
  M : ∀ d d' : Kd α, d.sz = d'.sz → (∀ w base ok x cs, d.M w base ok x cs → d'.M w base ok x cs) → ∀ w base ok x cs, (F d).M w base ok x cs → (F d').M w base ok x cs
end Kd
namespace Kd
section
variable {α β : Type} {d : Kd α} {d' : Kd β} {e e' : Nat} {w w1 W : World} {base b b' : Nat} {ok ok' okv oku : Nat → Prop} {v u : Value} {xs : List α} {ys : List β}
theorem R_drew (h : d.R e w base ok v xs) : d.R e w.drew base ok v xs := R_below h (below_drew (Below.refl _ _))
theorem R_reads' {A : Option Addr} {n c : Nat} (h : d.R e w base ok (.slice A n c) xs) : n = xs.length ∧ n ≤ c ∧ d.C w A xs.length xs := by
  obtain ⟨A', c', he, hl, hr⟩ := R_reads h
  injection he with h1 h2 h3
  subst h1
  exact ⟨h2, by omega, hr⟩
end
end Kd
def QRow (w : World) (base : Nat) (e : TypeId) (size : Nat) (v : Value) (n : Nat) (xs : List Value) : Prop :=
  xs.length = n * size ∧
  ((n = 0 ∧ ∃ A, v = .slice A 0 0 ∧ ∀ a, A = some a → base ≤ a.block ∧ ∃ cur, w.heap[a.block]? = some (.cells cur e (0, 0))) ∨
   ∃ g off cap cur, v = .slice (some ⟨g, off * size, none⟩) n cap ∧ base ≤ g ∧ w.heap[g]? = some (.cells cur e (0, 0)) ∧ n ≤ cap ∧ off + cap ≤ maxLen ∧ cur.size = (off + cap) * size ∧ (cur.toList.drop (off * size)).take (n * size) = xs)
section
variable {w w1 : World} {base n size : Nat} {e : TypeId} {v : Value} {xs : List Value}
theorem add_at (g o j : Nat) : (⟨g, o, none⟩ : Addr).add j = ⟨g, o + j, none⟩ := by unfold Addr.add; split <;> simp_all
theorem setCells_row {g : Nat} {e : TypeId} : ∀ (vs : List Value) (o : Nat) (w : World) (cur : Array Value), w.heap[g]? = some (.cells cur e (0, 0)) → o + vs.length ≤ cur.size →
    ∃ cur', (w.setCells g o vs).heap[g]? = some (.cells cur' e (0, 0)) ∧ cur'.size = cur.size ∧ cur'.toList = cur.toList.take o ++ vs ++ cur.toList.drop (o + vs.length)
  | [], o, w, cur, h, _ => ⟨cur, h, rfl, by simp⟩
  | v :: r, o, w, cur, h, hl => by
    have h2 := blk_set h o v
    simp only [List.length_cons] at hl
    obtain ⟨cur', h3, h4, h5⟩ := setCells_row r (o + 1) (w.setCell ⟨g, o, none⟩ v) _ h2 (by simp; omega)
    refine ⟨cur', h3, by rw [h4]; simp, ?_⟩
    rw [h5, Array.toList_setIfInBounds]
    have ho : o < cur.toList.length := by rw [Array.length_toList]; omega
    rw [List.take_set, List.drop_set_of_lt (by omega)]
    simp only [List.length_cons]
    rw [show o + 1 + r.length = o + (r.length + 1) by omega]
    congr 1
    rw [List.take_succ_eq_append_getElem ho, List.set_append_right _ _ (by rw [List.length_take]; omega)]
    have ho' : o < cur.size := by omega
    simp [Nat.min_eq_left (Nat.le_of_lt ho')]
end
namespace Kd
def Q {α : Type} (d : Kd α) (e : Nat) (w : World) (base : Nat) (ok : Nat → Prop) (v : Value) (xs : List α) : Prop :=
  (∀ k, v.ownBlock = some k → ok k) ∧ ∃ inner, QRow w base e d.sz v xs.length inner ∧ Reps (d.M w base (fun k => ok k ∧ some k ≠ v.ownBlock)) d.sz xs inner
end Kd
namespace Kd
theorem reps_append {α : Type} {R : α → List Value → Prop} {size : Nat} {ps qs : List α} {cs ds : List Value} (h : Reps R size ps cs) (h' : Reps R size qs ds) : Reps R size (ps ++ qs) (cs ++ ds) := by
  refine ⟨by rw [List.length_append, List.length_append, h.1, h'.1, Nat.add_mul], fun j p hj => ?_⟩
  rcases Nat.lt_or_ge j ps.length with hlt | hge
  · rw [List.getElem?_append_left hlt] at hj
    have hle : j * size + size ≤ cs.length := by rw [h.1, ← Nat.succ_mul]; exact Nat.mul_le_mul_right _ hlt
    rw [List.drop_append_of_le_length (by omega), List.take_append_of_le_length (by rw [List.length_drop]; omega)]
    exact h.2 j p hj
  · rw [List.getElem?_append_right hge] at hj
    have h2 := h'.2 (j - ps.length) p hj
    have hle : ps.length * size ≤ j * size := Nat.mul_le_mul_right _ hge
    rw [List.drop_append, List.drop_eq_nil_of_le (by rw [h.1]; exact hle), List.nil_append, h.1, ← Nat.sub_mul]
    exact h2
end Kd
theorem ReadsInt.nil (W : World) (k : IntKind) : ReadsInt W k none ([] : List Int).length [] := ⟨rfl, by simp, fun h => absurd h (Nat.lt_irrefl 0)⟩
theorem ReadsInt.drewN {W : World} {k : IntKind} {A : Option Addr} {n : Nat} {xs : List Int} (h : ReadsInt W k A n xs) (m : Nat) : ReadsInt (W.drewN m) k A n xs := h
theorem keep_cell {w W : World} {g : Nat} (h : KeepBut w W g none) {a : Addr} {v : Value} (hc : w.cell? a = some v) (hne : a.block ≠ g) : W.cell? a = some v := by
  have := h.2 a.block (World.block_lt_of_cell? w a hc) hne (by simp)
  simpa [World.cell?, this] using hc
theorem add_block (a : Addr) (i : Nat) : (a.add i).block = a.block := by unfold Addr.add; split <;> rfl
theorem ReadsOf.nil {α : Type} (enc : α → Value) (d : α) (W : World) : ReadsOf enc d W none ([] : List α).length [] := ⟨rfl, by simp, fun h => absurd h (Nat.lt_irrefl 0)⟩
theorem ReadsOf.drewN {α : Type} {enc : α → Value} {d : α} {W : World} {A : Option Addr} {n : Nat} {xs : List α} (h : ReadsOf enc d W A n xs) (m : Nat) : ReadsOf enc d (W.drewN m) A n xs := h
theorem ReadsInt.keep {w W : World} {k : IntKind} {A : Option Addr} {n g : Nat} {xs : List Int} (h : ReadsInt w k A n xs) (hk : KeepBut w W g none) (hf : ∀ ad, A = some ad → 0 < n → ad.block ≠ g) : ReadsInt W k A n xs :=
  ⟨h.1, h.2.1, fun hn => by
    obtain ⟨ad, e, hc⟩ := h.2.2 hn
    exact ⟨ad, e, fun j hj => keep_cell hk (hc j hj) (by rw [add_block]; exact hf ad e hn)⟩⟩
theorem ReadsOf.keep {α : Type} {enc : α → Value} {d : α} {w W : World} {A : Option Addr} {n g : Nat} {xs : List α} (h : ReadsOf enc d w A n xs) (hk : KeepBut w W g none) (hf : ∀ ad, A = some ad → 0 < n → ad.block ≠ g) : ReadsOf enc d W A n xs :=
  ⟨h.1, h.2.1, fun hn => by
    obtain ⟨ad, e, hc⟩ := h.2.2 hn
    exact ⟨ad, e, fun j hj => keep_cell hk (hc j hj) (by rw [add_block]; exact hf ad e hn)⟩⟩
theorem below_drew1 {base : Nat} {w W : World} (h : Below base w W) : Below base w W.drew := h.drew
section
variable {P : Program} {ops : Array Oper} {o : Oper} {a : Act} {Q : Exit → Act → World → Prop} {Kc : Act → World → Prop}
theorem event_step {W w1 : World} {v : Value} (hw : Region.wanted o (yielded ops a.tmps) = true) (hrun : (execOp a.eval o).run P W = .ok (.value v) w1) (h : Kc (a.put o.dst v) w1) : if Region.wanted o (yielded ops a.tmps) = true then Oper.wp P o a W Kc Q else Kc (a.put o.dst undef) W := by
  rw [if_pos hw]
  unfold Oper.wp
  rw [hrun]
  exact h
namespace Kd
variable {α : Type}
theorem R_lit_step (d : Kd α) {w0 W : World} (base e : Nat) (hw : Region.wanted o (yielded ops a.tmps) = true) {N : Tmp} (_hd : o.dst = some N) {xs : List α} {inner : List Value} {ok okp : Nat → Prop}
    (hrun : (execOp a.eval o).run P W = .ok (.value (.slice (some ⟨W.heap.size, 0, none⟩) xs.length xs.length)) (W.alloc (.cells inner.toArray e)))
    (hrep : Reps (d.M W base okp) d.sz xs inner) (hok : ∀ k, okp k → ok k) (hfresh : ok W.heap.size) (HB : Below base w0 W) (hbase : base ≤ W.heap.size) (hm : xs.length ≤ 9223372036854775807)
    (h : ∀ v1 w1, d.R e w1 base ok v1 xs → Below base w0 w1 → W.grownBy w1 none → (∃ b, v1.ownBlock = some b ∧ W.heap.size ≤ b) → Kc (a.put o.dst v1) w1) : if Region.wanted o (yielded ops a.tmps) = true then Oper.wp P o a W Kc Q else Kc (a.put o.dst undef) W := by
  refine event_step hw hrun (h _ _ ⟨fun k hk => ?_, inner, ?_, ?_⟩ (HB.alloc hbase _) (World.grownBy_alloc W _ none) ⟨W.heap.size, by simp [Value.ownBlock], Nat.le_refl _⟩)
  · have : W.heap.size = k := by simpa [Value.ownBlock] using hk
    subst this
    exact hfresh
  · have h2 := World.ownsRow_lit (base := base) (e := e) (size := d.sz) W inner.toArray xs.length hbase (by simpa [maxLen] using hm) (by simpa using hrep.1)
    simpa using h2
  · refine hrep.imp_ (fun p c hp => d.M_mono (fun k hk => ⟨hok k hk.1, fun he => ?_⟩) (M_below (d.M_bound hp) (below_alloc (Below.refl _ _) _)))
    have h3 : k = W.heap.size := by simpa [Value.ownBlock] using he
    have := hk.2.2.1
    omega
theorem R_append_rows_step (d : Kd α) {Rr : α → List Value → Prop} {w0 W : World} (base : Nat) (hw : Region.wanted o (yielded ops a.tmps) = true) (s x : Operand) (t e : TypeId) (z : Value) (bytes : Nat)
    (ho : o.op = .call { callee := .builtin .append, args := #[s, x], argTypes := #[t, t] })
    (ht : P.underlying t = some (.slice e)) (hinfo : (P.info? e).map (fun i => (i.zero, i.size, i.bytes)) = some (some z, d.sz, bytes)) (hz : z.cells.size = d.sz) (hs0 : 0 < d.sz) (hb0 : 0 < bytes)
    (v : Value) (xs ys : List α) (A : Option Addr) (m c : Nat) (ok okp : Nat → Prop) (hs : a.eval s = v) (hx : a.eval x = .slice A m c)
    (HO : d.R e W base ok v xs) (HR : ReadsRow Rr d.sz W A m ys) (hKM : ∀ x cs, Rr x cs → d.M W base okp x cs) (hokp : ∀ k, okp k → ok k ∧ some k ≠ v.ownBlock) (hfresh : ∀ k, W.heap.size ≤ k → ok k)
    (HB : Below base w0 W) (hbase : base ≤ W.heap.size) (hl : (xs.length + m) * bytes ≤ 140737488355328)
    (h : ∀ v1 w1, d.R e w1 base ok v1 (xs ++ ys) → Below base w0 w1 → W.grownBy w1 v.ownBlock → (v1.ownBlock = v.ownBlock ∨ ∃ b, v1.ownBlock = some b ∧ W.heap.size ≤ b) → Kc (a.put o.dst v1) w1) :
    if Region.wanted o (yielded ops a.tmps) = true then Oper.wp P o a W Kc Q else Kc (a.put o.dst undef) W := by
  obtain ⟨i0, hi, hzz⟩ := Option.map_eq_some_iff.1 hinfo
  simp only [Prod.mk.injEq] at hzz
  obtain ⟨hz0, hz1, hz2⟩ := hzz
  have hm : ys.length = m := HR.1
  have hlen : xs.length + m ≤ 140737488355328 := Nat.le_trans (Nat.le_mul_of_pos_right _ hb0) hl
  obtain ⟨hok, inner, hown, hr⟩ := HO
  have hrun : ∃ v1 w1, (Builtin.append_ #[t, t] o.type #[v, .slice A m c]).run P W = .ok v1 w1 ∧ d.R e w1 base ok v1 (xs ++ ys) ∧ W.grownBy w1 v.ownBlock ∧ (v1.ownBlock = v.ownBlock ∨ ∃ b, v1.ownBlock = some b ∧ W.heap.size ≤ b) := by
    rcases A with _ | ad
    · have h0 : m = 0 := by
        rcases Nat.eq_zero_or_pos m with h0 | h0
        · exact h0
        · obtain ⟨ad, h, _⟩ := HR.2.2 h0
          cases h
      subst h0
      obtain rfl : ys = [] := List.eq_nil_of_length_eq_zero hm
      refine ⟨v, W, ?_, by rw [List.append_nil]; exact ⟨hok, inner, hown, hr⟩, World.grownBy.refl W _, .inl rfl⟩
      rcases hown.2 with ⟨rfl, hn⟩ | ⟨g, cap, cur, rfl, _, _, hnc, _⟩
      · simp [Builtin.append_, run_underlying ht, sizeOf, typeInfo, hi, Builtin.lenOf, Builtin.firstCells]
      · simp [Builtin.append_, run_underlying ht, sizeOf, typeInfo, hi, Builtin.lenOf, Builtin.firstCells, hnc, storeCells]
    · obtain ⟨news, hnr, hnc⟩ := ReadsRow.inner_ HR
      have hnM : Reps (d.M W base okp) d.sz ys news := hnr.imp_ (fun p c hp => hKM p c hp)
      have hone : ∀ u ∈ news, u.oneCell' = true := by
        intro u hu
        obtain ⟨q, hq, rfl⟩ := List.mem_iff_getElem.1 hu
        have hql : q / d.sz < ys.length := by
          rw [Nat.div_lt_iff_lt_mul hs0]
          rw [← hnM.1]
          exact hq
        have hc := hnM.2 (q / d.sz) _ (List.getElem?_eq_getElem hql)
        refine d.K_one (d.K_of_M hc) _ ?_
        rw [List.mem_iff_getElem?]
        refine ⟨q % d.sz, ?_⟩
        rw [List.getElem?_take, if_pos (Nat.mod_lt _ hs0), List.getElem?_drop, Nat.mul_comm, Nat.div_add_mod, List.getElem?_eq_getElem hq]
      obtain ⟨v1, w1, hrun, h2, hg, _, hat⟩ := run_append_own_at (P := P) W base t o.type e i0 z d.sz bytes ht hi hz0 hz1 hz2 hz hs0 v xs.length inner hown ad m c news (by rw [hnM.1, hm]) hnc hone (by simp only [maxLen]; omega) hl hbase
      have hat' : v1.ownBlock = v.ownBlock ∨ ∃ b, v1.ownBlock = some b ∧ W.heap.size ≤ b := by
        rcases hat with hat | hat
        · exact .inl hat
        · exact .inr ⟨_, hat, Nat.le_refl _⟩
      have hne : ∀ k, some k ≠ v.ownBlock → k < W.heap.size → some k ≠ v1.ownBlock := by
        intro k hk hlt
        rcases hat' with hat | ⟨b, hb, hle⟩
        · rw [hat]; exact hk
        · rw [hb]
          intro he
          injection he with he
          omega
      have step : ∀ {q : α} {c : List Value} {o : Nat → Prop}, d.M W base o q c → (∀ k, o k → ok k ∧ some k ≠ v.ownBlock) → d.M w1 base (fun k => ok k ∧ some k ≠ v1.ownBlock) q c := by
        intro q c o hq ho
        have h1 := d.M_move (w1 := w1) (fun k hk => hg.block k hk.2.2.1 (ho k hk.1).2) (d.M_bound hq)
        exact d.M_mono (fun k hk => ⟨(ho k hk.1).1, hne k (ho k hk.1).2 hk.2.2.1⟩) h1
      refine ⟨v1, w1, hrun, ⟨fun k hk => ?_, inner ++ news, by rw [List.length_append, hm]; exact h2, reps_append (hr.imp_ (fun _ _ hq => step hq (fun _ hk => hk))) (hnM.imp_ (fun _ _ hq => step hq hokp))⟩, hg, hat'⟩
      rcases hat' with hat | ⟨b, hb, hle⟩
      · exact hok k (hat ▸ hk)
      · rw [hb] at hk
        injection hk with hk
        exact hfresh k (by omega)
  obtain ⟨v1, w1, hr1, h1, hg, hat⟩ := hrun
  rw [if_pos hw]
  unfold Oper.wp execOp
  simp only [ho, resolve, invoke, builtin, Sem.run_bind, Sem.run_pure, Result.andThen_ok, List.map_toArray, List.map_cons, List.map_nil, hs, hx, hr1]
  exact h v1 w1 h1 (HB.grown hg hbase (own_base hown)) hg hat
end Kd
end
inductive Vals (P : Program) (tmps : Array Value) (w : World) : List ResultVar → List Value → Prop where
  | nil : Vals P tmps w [] []
  | tmp {u : Tmp} {rs : List ResultVar} {vs : List Value} (h : Vals P tmps w rs vs) : Vals P tmps w (.tmp u :: rs) (tmps.getD u undef :: vs)
  | cell {p : Tmp} {ty : TypeId} {rs : List ResultVar} {vs : List Value} (g : Nat) (t : TypeId) (cs : Array Value) (fr : Nat × Nat) (d : TypeDesc)
      (hp : tmps.getD p undef = .pointer (some ⟨g, 0, none⟩)) (hg : w.heap[g]? = some (.cells cs t fr))
      (hu : P.underlying ty = some d) (hd : (match d with | .struct _ | .array _ _ => true | _ => false) = true) (hi : (P.info? ty).map (·.size) = some cs.size)
      (h : Vals P tmps w rs vs) : Vals P tmps w (.cell p ty :: rs) (.agg cs :: vs)
end Go.Proofs.YtbmnkchcekacfaaDoorW.PrintWords
end

section
namespace Go.Proofs.YtbmnkchcekacfaaDoorW.PrintLast
section
variable {P : Program} {ops : Array Oper} {Q : Exit → Act → World → Prop} {md : Region.Mode} {S : World → Prop} {ds : List Nat}
def Region.reachB (md : Region.Mode) (ops : Array Oper) (i : Nat) : Nat → Nat → Bool
  | 0, _ => false
  | fuel + 1, d => match ops[d]? with
    | some o => o.after.any fun e => Region.binds md e && (e.on == i || Region.reachB md ops i fuel e.on)
    | none => false
def Region.closedB (md : Region.Mode) (ops : Array Oper) (listed : Array Bool) : Bool :=
  (List.range ops.size).all fun j => !listed.getD j false || match ops[j]? with
    | some o => o.after.all fun e => !Region.binds md e || listed.getD e.on false
    | none => true
def Region.lastB (md : Region.Mode) (ops : Array Oper) (listed : Array Bool) (ds : List Nat) (i : Nat) : Bool :=
  ds.all fun d => listed.getD d true || Region.reachB md ops i ops.size d
def ListedClosed (md : Region.Mode) (ops : Array Oper) (listed : Array Bool) : Prop :=
  ∀ j oj, ops[j]? = some oj → listed.getD j false = true → ∀ e ∈ oj.after, Region.binds md e = true → listed.getD e.on false = true
theorem Region.closedB_spec {listed : Array Bool} (h : Region.closedB md ops listed = true) : ListedClosed md ops listed := by
  intro j oj hj hl e he hb
  have hlt : j < ops.size := (Array.getElem?_eq_some_iff.1 hj).1
  have h1 := List.all_eq_true.1 h j (List.mem_range.2 hlt)
  simp only [hl, hj, Bool.not_true, Bool.false_or] at h1
  have h2 := Array.all_eq_true_iff_forall_mem.1 h1 e he
  simpa [hb] using h2
theorem ListedClosed.set {listed : Array Bool} {i : Nat} (h : ListedClosed md ops listed) (hi : i ∈ Region.ready md ops listed) : ListedClosed md ops (listed.setIfInBounds i true) := by
  obtain ⟨_, oi, hoi, hall⟩ := mem_ready.1 hi
  intro j oj hj hl e he hb
  by_cases hij : i = j
  · subst hij
    have : oj = oi := Option.some.inj (hj.symm.trans hoi)
    subst this
    exact getD_set_true (hall e he hb)
  · rw [getD_set_ne false hij] at hl
    exact getD_set_true (h j oj hj hl e he hb)
theorem Region.reach_listed {listed : Array Bool} {i : Nat} (hc : ListedClosed md ops listed) : ∀ (fuel d : Nat), Region.reachB md ops i fuel d = true → listed.getD d false = true → listed.getD i false = true
  | 0, _, h, _ => by simp [Region.reachB] at h
  | fuel + 1, d, h, hl => by
    unfold Region.reachB at h
    cases ho : ops[d]? with
    | none => rw [ho] at h; simp at h
    | some o =>
      rw [ho] at h
      obtain ⟨e, he, h1⟩ := Array.any_eq_true'.1 h
      simp only [Bool.and_eq_true, Bool.or_eq_true, beq_iff_eq] at h1
      have hle := hc d o ho hl e he h1.1
      rcases h1.2 with h2 | h2
      · rw [← h2]; exact hle
      · exact Region.reach_listed hc fuel e.on h2 hle
theorem Region.reach_not_ready {listed : Array Bool} {i d fuel : Nat} (hc : ListedClosed md ops listed) (hr : Region.reachB md ops i fuel d = true) (hun : listed.getD i true = false) : d ∉ Region.ready md ops listed := by
  intro hd
  obtain ⟨_, o, ho, hall⟩ := mem_ready.1 hd
  have hi : listed.getD i false = true := by
    cases fuel with
    | zero => simp [Region.reachB] at hr
    | succ n =>
      unfold Region.reachB at hr
      rw [ho] at hr
      obtain ⟨e, he, h1⟩ := Array.any_eq_true'.1 hr
      simp only [Bool.and_eq_true, Bool.or_eq_true, beq_iff_eq] at h1
      have hle := hall e he h1.1
      rcases h1.2 with h2 | h2
      · rw [← h2]; exact hle
      · exact Region.reach_listed hc n e.on h2 hle
  rcases Nat.lt_or_ge i listed.size with h' | h'
  · simp [h'] at hun hi
    rw [hun] at hi
    cases hi
  · simp [Array.getElem?_eq_none h'] at hun
def yD (P : Program) (md : Region.Mode) (ops : Array Oper) (Q : Exit → Act → World → Prop) (S : World → Prop) (ds : List Nat) : Nat → Array Bool → Act → World → Prop
  | 0, listed, a, w => Region.ready md ops listed = [] ∧ Q .normal a w
  | fuel + 1, listed, a, w =>
    (Region.ready md ops listed = [] → Q .normal a w) ∧
    ∀ i ∈ Region.ready md ops listed, wpOp P ops Q i (fun a' w' => (i ∉ ds → S w → S w') ∧ yD P md ops Q S ds fuel (listed.setIfInBounds i true) a' w') a w
theorem wpAny_of_last : ∀ (fuel : Nat) (listed : Array Bool) (a : Act) (w : World), yD P md ops Q S ds fuel listed a w → wpAny P md ops Q fuel listed a w
  | 0, _, _, _, h => h
  | fuel + 1, _, _, _, h => ⟨h.1, fun i hi => wpOp_mono (fun a' w' h' => wpAny_of_last fuel _ a' w' h'.2) (h.2 i hi)⟩
theorem wpAnyLast_first {i : Nat} {oi : Oper} {v : Value} (hi : ops[i]? = some oi) (hsel : ∀ (j : Nat) (o : Oper) cs b, ops[j]? = some o → o.op ≠ .select cs b)
    (hQ : ∀ c a w, Q (.panic c) (a.put oi.dst v) w → Q (.panic c) a w) (n : Nat) :
    ∀ (fuel : Nat) (listed : Array Bool) (a : Act) (w : World),
      (∀ j oj, ops[j]? = some oj → j ≠ i → listed.getD j true = false → (∀ e ∈ oj.after, Region.binds md e = true → e.on ≠ i) → oi.apart ops oj = true) →
      ListedClosed md ops listed → (∀ d ∈ ds, listed.getD d true = false → Region.reachB md ops i n d = true) →
      i ∈ Region.ready md ops listed → YieldsIf P ops S oi v a → S w →
      yD P md ops Q S ds fuel (listed.setIfInBounds i true) (a.put oi.dst v) w → yD P md ops Q S ds (fuel + 1) listed a w := by
  intro fuel
  induction fuel with
  | zero =>
    intro listed a w _ _ _ hr hy hS H
    refine ⟨fun h => (by rw [h] at hr; cases hr), fun j hj => ?_⟩
    by_cases hji : j = i
    · subst hji; exact hy.wpOp hi hS ⟨fun _ h => h, H⟩
    · have := ready_mono hj hji
      rw [H.1] at this
      cases this
  | succ fuel ih =>
    intro listed a w hfree hc hd hr hy hS H
    refine ⟨fun h => (by rw [h] at hr; cases hr), fun j hj => ?_⟩
    by_cases hji : j = i
    · subst hji; exact hy.wpOp hi hS ⟨fun _ h => h, H⟩
    · have h1 := H.2 j (ready_mono hj hji)
      obtain ⟨hjun, oj, hoj, hall⟩ := mem_ready.1 hj
      have hiun := (mem_ready.1 hr).1
      have hnot : ∀ e ∈ oj.after, Region.binds md e = true → e.on ≠ i := fun e he hb heq => by
        have h1 := hall e he hb
        rw [heq] at h1
        rcases Nat.lt_or_ge i listed.size with h' | h'
        · simp [h'] at hiun h1; rw [hiun] at h1; cases h1
        · simp [Array.getElem?_eq_none h'] at h1
      have hjd : j ∉ ds := fun hm => Region.reach_not_ready hc (hd j hm hjun) hiun hj
      have h2 := wpOp_putIf hoj (hfree j oj hoj hji hjun hnot) (fun cs b => hsel i oi cs b hi) (fun cs b => hsel j oj cs b hoj) hQ hy h1
      have hfree' : ∀ k ok, ops[k]? = some ok → k ≠ i → (listed.setIfInBounds j true).getD k true = false →
          (∀ e ∈ ok.after, Region.binds md e = true → e.on ≠ i) → oi.apart ops ok = true := fun k ok hk hki hun hno => by
        refine hfree k ok hk hki ?_ hno
        by_cases hjk : j = k
        · subst hjk; exact hjun
        · rw [getD_set_ne true hjk] at hun; exact hun
      have hd' : ∀ d ∈ ds, (listed.setIfInBounds j true).getD d true = false → Region.reachB md ops i n d = true := fun d hm hun => by
        refine hd d hm ?_
        by_cases hjk : j = d
        · subst hjk; exact hjun
        · rw [getD_set_ne true hjk] at hun; exact hun
      refine wpOp_mono (fun a' w' h3 => ⟨h3.2.1, ih (listed.setIfInBounds j true) a' w' hfree' (hc.set hj) hd' (ready_mono hr (Ne.symm hji)) h3.1 (h3.2.1 hjd hS) ?_⟩) h2
      rw [Array.setIfInBounds_comm _ _ hji]
      exact h3.2.2
theorem wpAnyLast_any {i : Nat} {oi : Oper} {v : Value} (hi : ops[i]? = some oi) (hsel : ∀ (j : Nat) (o : Oper) cs b, ops[j]? = some o → o.op ≠ .select cs b)
    (hQ : ∀ c a w, Q (.panic c) (a.put oi.dst v) w → Q (.panic c) a w) :
    ∀ (fuel : Nat) (listed : Array Bool) (a : Act) (w : World),
      (∀ j oj, ops[j]? = some oj → j ≠ i → listed.getD j true = false → (∀ e ∈ oj.after, Region.binds md e = true → e.on ≠ i) → oi.apart ops oj = true) →
      i ∈ Region.ready md ops listed → Yields P ops oi v a →
      yD P md ops Q S ds fuel (listed.setIfInBounds i true) (a.put oi.dst v) w → yD P md ops Q S ds (fuel + 1) listed a w := by
  intro fuel
  induction fuel with
  | zero =>
    intro listed a w _ hr hy H
    refine ⟨fun h => (by rw [h] at hr; cases hr), fun j hj => ?_⟩
    by_cases hji : j = i
    · subst hji; exact (hy.yieldsIf (S := fun _ => True)).wpOp hi trivial ⟨fun _ h => h, H⟩
    · have := ready_mono hj hji
      rw [H.1] at this
      cases this
  | succ fuel ih =>
    intro listed a w hfree hr hy H
    refine ⟨fun h => (by rw [h] at hr; cases hr), fun j hj => ?_⟩
    by_cases hji : j = i
    · subst hji; exact (hy.yieldsIf (S := fun _ => True)).wpOp hi trivial ⟨fun _ h => h, H⟩
    · have h1 := H.2 j (ready_mono hj hji)
      obtain ⟨hjun, oj, hoj, hall⟩ := mem_ready.1 hj
      have hiun := (mem_ready.1 hr).1
      have hnot : ∀ e ∈ oj.after, Region.binds md e = true → e.on ≠ i := fun e he hb heq => by
        have h1 := hall e he hb
        rw [heq] at h1
        rcases Nat.lt_or_ge i listed.size with h' | h'
        · simp [h'] at hiun h1; rw [hiun] at h1; cases h1
        · simp [Array.getElem?_eq_none h'] at h1
      have h2 := wpOp_put hoj (hfree j oj hoj hji hjun hnot) (fun cs b => hsel i oi cs b hi) (fun cs b => hsel j oj cs b hoj) hQ hy h1
      have hfree' : ∀ k ok, ops[k]? = some ok → k ≠ i → (listed.setIfInBounds j true).getD k true = false →
          (∀ e ∈ ok.after, Region.binds md e = true → e.on ≠ i) → oi.apart ops ok = true := fun k ok hk hki hun hno => by
        refine hfree k ok hk hki ?_ hno
        by_cases hjk : j = k
        · subst hjk; exact hjun
        · rw [getD_set_ne true hjk] at hun; exact hun
      refine wpOp_mono (fun a' w' h3 => ⟨h3.2.1, ih (listed.setIfInBounds j true) a' w' hfree' (ready_mono hr (Ne.symm hji)) h3.1 ?_⟩) h2
      rw [Array.setIfInBounds_comm _ _ hji]
      exact h3.2.2
theorem wpAnyLast_take {i : Nat} {oi : Oper} {v : Value} {fuel : Nat} {listed : Array Bool} {a : Act} {w : World} (hi : ops[i]? = some oi)
    (hs : Region.noSelect ops = true) (hf : Region.free md ops listed i = true) (hr : (Region.ready md ops listed).contains i = true)
    (hc : Region.closedB md ops listed = true) (hl : Region.lastB md ops listed ds i = true)
    (hQ : ∀ c a w, Q (.panic c) (a.put oi.dst v) w → Q (.panic c) a w) (hy : YieldsIf P ops S oi v a) (hS : S w)
    (h : yD P md ops Q S ds fuel (listed.setIfInBounds i true) (a.put oi.dst v) w) : yD P md ops Q S ds (fuel + 1) listed a w :=
  wpAnyLast_first hi (Region.noSelect_spec hs) hQ ops.size fuel listed a w (Region.free_spec hi hf) (Region.closedB_spec hc)
    (fun d hm hun => by have := List.all_eq_true.1 hl d hm; rw [hun] at this; simpa using this) (by simpa using hr) hy hS h
theorem wpAnyLast_all {rs : List Nat} {fuel : Nat} {listed : Array Bool} {a : Act} {w : World} (hr : Region.ready md ops listed = rs) (hne : rs ≠ [])
    (h : ∀ i ∈ rs, wpOp P ops Q i (fun a' w' => (i ∉ ds → S w → S w') ∧ yD P md ops Q S ds fuel (listed.setIfInBounds i true) a' w') a w) : yD P md ops Q S ds (fuel + 1) listed a w :=
  ⟨fun h0 => absurd (hr ▸ h0) hne, hr ▸ h⟩
theorem wpAnyLast_done {listed : Array Bool} {a : Act} {w : World} (hr : Region.ready md ops listed = []) (h : Q .normal a w) :
    ∀ fuel, yD P md ops Q S ds fuel listed a w
  | 0 => ⟨hr, h⟩
  | _ + 1 => ⟨fun _ => h, by rw [hr]; simp⟩
theorem wp_region_last {id : Nat} {a : Act} {w : World} (hm : P.follows .mixedOrders = true)
    (h : yD P .any ops Q S ds ops.size (Array.replicate ops.size false) a { w with drawn := w.drawn + 1 }) : (Code.region id ops true).wp P Q a w :=
  wp_region_any hm (wpAny_of_last _ _ _ _ h)
end
section
variable {P : Program} {ops : Array Oper} {Q : Exit → Act → World → Prop} {md : Region.Mode} {S : World → Prop} {ds : List Nat}
def AllReadyL (P : Program) (md : Region.Mode) (ops : Array Oper) (Q : Exit → Act → World → Prop) (S : World → Prop) (ds : List Nat) (fuel : Nat) (listed : Array Bool) (a : Act) (w : World) (rs : List Nat) : Prop :=
  ∀ i ∈ rs, wpOp P ops Q i (fun a' w' => (i ∉ ds → S w → S w') ∧ yD P md ops Q S ds fuel (listed.setIfInBounds i true) a' w') a w
theorem AllReadyL.nil {fuel : Nat} {listed : Array Bool} {a : Act} {w : World} : AllReadyL P md ops Q S ds fuel listed a w [] := fun _ h => by cases h
theorem AllReadyL.cons {fuel : Nat} {listed : Array Bool} {a : Act} {w : World} {i : Nat} {o : Oper} {rs : List Nat} (ho : ops[i]? = some o) (hd : i ∉ ds)
    (h : ∀ K' : Act → World → Prop, Shut (∀ a w, S w → (S w → yD P md ops Q S ds fuel (listed.setIfInBounds i true) a w) → K' a w) → if Region.wanted o (yielded ops a.tmps) = true then Oper.wp P o a w K' Q else K' (a.put o.dst undef) w)
    (hs : AllReadyL P md ops Q S ds fuel listed a w rs) : AllReadyL P md ops Q S ds fuel listed a w (i :: rs) := fun j hj => by
  rcases List.mem_cons.1 hj with rfl | hj
  · exact wpOp_step ho (fun K' hK => h K' (fun a w hS hW => hK a w ⟨fun _ _ => hS, hW hS⟩))
  · exact hs j hj
theorem AllReadyL.cons_last {fuel : Nat} {listed : Array Bool} {a : Act} {w : World} {i : Nat} {o : Oper} {rs : List Nat} (ho : ops[i]? = some o) (hd : i ∈ ds)
    (h : ∀ K' : Act → World → Prop, Shut (∀ a w, yD P md ops Q S ds fuel (listed.setIfInBounds i true) a w → K' a w) → if Region.wanted o (yielded ops a.tmps) = true then Oper.wp P o a w K' Q else K' (a.put o.dst undef) w)
    (hs : AllReadyL P md ops Q S ds fuel listed a w rs) : AllReadyL P md ops Q S ds fuel listed a w (i :: rs) := fun j hj => by
  rcases List.mem_cons.1 hj with rfl | hj
  · exact wpOp_step ho (fun K' hK => h K' (fun a w hW => hK a w ⟨fun hn => absurd hd hn, hW⟩))
  · exact hs j hj
theorem wpAnyLast_ready {rs : List Nat} {fuel : Nat} {listed : Array Bool} {a : Act} {w : World} (hr : Region.ready md ops listed = rs) (hne : rs ≠ [])
    (h : AllReadyL P md ops Q S ds fuel listed a w rs) : yD P md ops Q S ds (fuel + 1) listed a w := wpAnyLast_all hr hne h
theorem start_ {id n : Nat} {a : Act} {w : World} (l : Array Bool) (hm : P.follows .mixedOrders = true) (hn : ops.size = n) (hl : Array.replicate n false = l) (hS : S w.drew)
    (h : S w.drew → yD P .any ops Q S ds n l a w.drew) : (Code.region id ops true).wp P Q a w := by
  subst hn
  subst hl
  exact wp_region_last hm (h hS)
def takeB (md : Region.Mode) (ops : Array Oper) (ds : List Nat) (l l' : Array Bool) (i : Nat) : Bool :=
  Region.noSelect ops && Region.free md ops l i && (Region.ready md ops l).contains i && Region.closedB md ops l && Region.lastB md ops l ds i && (l.setIfInBounds i true == l')
theorem take_ {i : Nat} {N : Option Tmp} {oi : Oper} {v : Value} {fuel : Nat} {l : Array Bool} {a : Act} {w : World} (l' : Array Bool) (hi : ops[i]? = some oi) (hN : oi.dst = N) (hc : takeB md ops ds l l' i = true)
    (hQ : ∀ c a w, Q (.panic c) (a.put oi.dst v) w → Q (.panic c) a w) (hy : YieldsIf P ops S oi v a) (hS : S w) {a' : Act} (ha : a.put N v = a')
    (h : yD P md ops Q S ds fuel l' a' w) : yD P md ops Q S ds (fuel + 1) l a w := by
  subst ha
  subst hN
  simp only [takeB, Bool.and_eq_true, beq_iff_eq] at hc
  obtain ⟨⟨⟨⟨⟨h1, h2⟩, h3⟩, h4⟩, h5⟩, h6⟩ := hc
  subst h6
  exact wpAnyLast_take hi h1 h2 h3 h4 h5 hQ hy hS h
def anyB (md : Region.Mode) (ops : Array Oper) (l l' : Array Bool) (i : Nat) : Bool :=
  Region.noSelect ops && Region.free md ops l i && (Region.ready md ops l).contains i && (l.setIfInBounds i true == l')
theorem pure_ {i : Nat} {N : Option Tmp} {oi : Oper} {v : Value} {fuel : Nat} {l : Array Bool} {a : Act} {w : World} (l' : Array Bool) (hi : ops[i]? = some oi) (hN : oi.dst = N) (hc : anyB md ops l l' i = true)
    (hQ : ∀ c a w, Q (.panic c) (a.put oi.dst v) w → Q (.panic c) a w) (hy : Yields P ops oi v a) {a' : Act} (ha : a.put N v = a')
    (h : yD P md ops Q S ds fuel l' a' w) : yD P md ops Q S ds (fuel + 1) l a w := by
  subst ha
  subst hN
  simp only [anyB, Bool.and_eq_true, beq_iff_eq] at hc
  obtain ⟨⟨⟨h1, h2⟩, h3⟩, h6⟩ := hc
  subst h6
  exact wpAnyLast_any hi (Region.noSelect_spec h1) hQ fuel l a w (Region.free_spec hi h2) (by simpa using h3) hy h
def readyB (md : Region.Mode) (ops : Array Oper) (l l' : Array Bool) (i : Nat) : Bool := (Region.ready md ops l == [i]) && (l.setIfInBounds i true == l')
theorem one_ {i : Nat} {N : Option Tmp} {oi : Oper} {fuel : Nat} {l : Array Bool} {a : Act} {w : World} (l' : Array Bool) (hi : ops[i]? = some oi) (hN : oi.dst = N) (hc : readyB md ops l l' i = true) (hd : i ∉ ds)
    (h : ∀ K : Act → World → Prop, Shut (∀ a' w', S w' → (S w' → yD P md ops Q S ds fuel l' a' w') → K a' w') → if Region.wanted oi (yielded ops a.tmps) = true then Oper.wp P oi a w K Q else K (a.put N undef) w) :
    yD P md ops Q S ds (fuel + 1) l a w := by
  subst hN
  simp only [readyB, Bool.and_eq_true, beq_iff_eq] at hc
  obtain ⟨h1, h2⟩ := hc
  subst h2
  exact wpAnyLast_ready h1 (by simp) (AllReadyL.cons hi hd (fun K hK => h K hK) AllReadyL.nil)
theorem last_ {i : Nat} {N : Option Tmp} {oi : Oper} {fuel : Nat} {l : Array Bool} {a : Act} {w : World} (l' : Array Bool) (hi : ops[i]? = some oi) (hN : oi.dst = N) (hc : readyB md ops l l' i = true) (hd : i ∈ ds)
    (h : ∀ K : Act → World → Prop, Shut (∀ a' w', yD P md ops Q S ds fuel l' a' w' → K a' w') → if Region.wanted oi (yielded ops a.tmps) = true then Oper.wp P oi a w K Q else K (a.put N undef) w) :
    yD P md ops Q S ds (fuel + 1) l a w := by
  subst hN
  simp only [readyB, Bool.and_eq_true, beq_iff_eq] at hc
  obtain ⟨h1, h2⟩ := hc
  subst h2
  exact wpAnyLast_ready h1 (by simp) (AllReadyL.cons_last hi hd (fun K hK => h K hK) AllReadyL.nil)
theorem done_ {l : Array Bool} {a : Act} {w : World} {n : Nat} (hr : (Region.ready md ops l == []) = true) (h : Q .normal a w) : yD P md ops Q S ds n l a w := wpAnyLast_done (by simpa using hr) h n
theorem norm_ {fuel : Nat} {l : Array Bool} {a a' : Act} {w : World} (ha : a = a') (h : yD P md ops Q S ds fuel l a' w) : yD P md ops Q S ds fuel l a w := by
  subst ha
  exact h
theorem call_ {oi : Oper} {N : Option Tmp} {a : Act} {w : World} {K : Act → World → Prop} (f : FuncId) (args : Array Value) (hw : Region.wanted oi (yielded ops a.tmps) = true) (hN : oi.dst = N) (hrun : (execOp a.eval oi).run P w = .ok (.enter f args) w)
    (h : Calls P f args w fun e w' => ∃ v, e = .returned v ∧ K (a.put N v) w') : if Region.wanted oi (yielded ops a.tmps) = true then Oper.wp P oi a w K Q else K (a.put N undef) w := by
  rw [if_pos hw]
  subst hN
  unfold Oper.wp
  rw [hrun, Oper.upon_enter]
  refine h.mono fun e w'' hh => ?_
  obtain ⟨v, rfl, hk⟩ := hh
  exact hk
theorem enters_ {f : FuncId} {fn : Func} (hf : P.funcs[f]? = some fn) (hname : (fn.name == "runtime.NumGoroutine") = false) (hb : fn.body.isSome = true) (args : Array Value) (w : World) : (callFunc f args).run P w = .ok (.enter f args) w := by
  have h1 : fn.name ≠ "runtime.NumGoroutine" := by simpa using hname
  obtain ⟨c, hc⟩ := Option.isSome_iff_exists.1 hb
  simp [callFunc, hf, h1, hc]
theorem goes_ {oi : Oper} {N : Option Tmp} {a : Act} {w : World} {K : Act → World → Prop} {f : FuncId} {fn : Func} {asz : Array Operand} {ts : Array TypeId} (hf : P.funcs[f]? = some fn) (hname : (fn.name == "runtime.NumGoroutine") = false) (hb : fn.body.isSome = true) (args : Array Value)
    (hw : Region.wanted oi (yielded ops a.tmps) = true) (hN : oi.dst = N) (hop : oi.op = .call { callee := .value (.func f), args := asz, argTypes := ts }) (hargs : asz.map a.eval = args)
    (h : Calls P f args w fun e w' => ∃ v, e = .returned v ∧ K (a.put N v) w') : if Region.wanted oi (yielded ops a.tmps) = true then Oper.wp P oi a w K Q else K (a.put N undef) w := by
  refine call_ f args hw hN ?_ h
  have he := enters_ hf hname hb args w
  unfold execOp
  simp [hop, resolve, Deferred.ofValue, invoke, Act.eval, hargs, he]
theorem goesL_ {rest : List Oper} {oi : Oper} {a : Act} {w : World} (N : Option Tmp) (hd : oi.dst = N) (hg : oi.guard = none) {f : FuncId} {fn : Func} {asz : Array Operand} {ts : Array TypeId} (hf : P.funcs[f]? = some fn) (hname : (fn.name == "runtime.NumGoroutine") = false) (hb : fn.body.isSome = true) (args : Array Value)
    (hop : oi.op = .call { callee := .value (.func f), args := asz, argTypes := ts }) (hargs : asz.map a.eval = args)
    (h : Calls P f args w fun e w' => ∃ v, e = .returned v ∧ wpList P ops Q rest (a.put N v) w') : wpList P ops Q (oi :: rest) a w := by
  refine wpList_plain hg fun K hK => ?_
  have he := enters_ hf hname hb args w
  have hrun : (execOp a.eval oi).run P w = .ok (.enter f args) w := by
    unfold execOp
    simp [hop, resolve, Deferred.ofValue, invoke, Act.eval, hargs, he]
  unfold Oper.wp
  rw [hrun, Oper.upon_enter]
  refine h.mono fun e w'' hh => ?_
  obtain ⟨v, rfl, hk⟩ := hh
  subst hd
  exact hK _ _ hk
theorem yF (n : Int) : IntKind.i64.wrap n = Go.RowKit.wrap64 n := by unfold Go.RowKit.wrap64; exact IntKind.wrap_i64 n
theorem yI (n : Int) : IntKind.i32.wrap n = Go.RowKit.wrap32 n := by unfold Go.RowKit.wrap32; exact IntKind.wrap_i32 n
end
end Go.Proofs.YtbmnkchcekacfaaDoorW.PrintLast
end

section
namespace Go.Proofs.YtbmnkchcekacfaaDoorW.PrintWords
open Go.RowKit
namespace Kd
def tag {α : Type} (f : Nat → Nat) (d : Kd α) : Kd (α × Nat) where
  sz := d.sz
  E := d.E
  K := fun w x cs => d.K w x.1 cs
  M := fun w base ok x cs => d.M w base (fun k => ok k ∧ f k = x.2) x.1 cs
  K_len := fun h => d.K_len h
  K_one := fun h => d.K_one h
  K_below := fun hb h => d.K_below hb h
  K_of_M := fun h => d.K_of_M h
  M_mono := fun hok h => d.M_mono (fun k hk => ⟨hok k hk.1, hk.2⟩) h
  M_bound := fun h => d.M_mono (fun _ hk => ⟨⟨hk.1.1, hk.2⟩, hk.1.2⟩) (d.M_bound h)
  M_move := fun hm h => d.M_move (fun k hk => hm k hk.1) h
  M_lower := fun hb h => d.M_lower hb h
def raw (sz : Nat) : Kd (List Value) where
  sz := sz
  E := []
  K := fun _ x cs => cs = x ∧ cs.length = sz ∧ ∀ u ∈ cs, u.oneCell' = true
  M := fun _ _ _ x cs => cs = x ∧ cs.length = sz ∧ ∀ u ∈ cs, u.oneCell' = true
  K_len := fun h => h.2.1
  K_one := fun h => h.2.2
  K_below := fun _ h => h
  K_of_M := fun h => h
  M_mono := fun _ h => h
  M_bound := fun h => h
  M_move := fun _ h => h
  M_lower := fun _ h => h
def S {α : Type} (d : Kd α) (e : Nat) (w : World) (base : Nat) (ok : Nat → Prop) (v : Value) (xs : List α) : Prop := ∃ f, (tag f d).R e w base ok v xs.zipIdx
def gap {α : Type} (f : Nat → Nat) (d : Kd α) (i : Nat) (c : List Value) : Kd (α × Nat) where
  sz := d.sz
  E := d.E
  K := fun w x cs => (x.2 = i → cs = c ∧ cs.length = d.sz ∧ ∀ u ∈ cs, u.oneCell' = true) ∧ (x.2 ≠ i → d.K w x.1 cs)
  M := fun w base ok x cs => (x.2 = i → cs = c ∧ cs.length = d.sz ∧ ∀ u ∈ cs, u.oneCell' = true) ∧ (x.2 ≠ i → d.M w base (fun k => ok k ∧ f k = x.2) x.1 cs)
  K_len := fun {w x cs} h => by
    by_cases hx : x.2 = i
    · exact (h.1 hx).2.1
    · exact d.K_len (h.2 hx)
  K_one := fun {w x cs} h => by
    by_cases hx : x.2 = i
    · exact (h.1 hx).2.2
    · exact d.K_one (h.2 hx)
  K_below := fun hb h => ⟨h.1, fun hx => d.K_below hb (h.2 hx)⟩
  K_of_M := fun h => ⟨h.1, fun hx => d.K_of_M (h.2 hx)⟩
  M_mono := fun hok h => ⟨h.1, fun hx => d.M_mono (fun k hk => ⟨hok k hk.1, hk.2⟩) (h.2 hx)⟩
  M_bound := fun h => ⟨h.1, fun hx => d.M_mono (fun _ hk => ⟨⟨hk.1.1, hk.2⟩, hk.1.2⟩) (d.M_bound (h.2 hx))⟩
  M_move := fun hm h => ⟨h.1, fun hx => d.M_move (fun k hk => hm k hk.1) (h.2 hx)⟩
  M_lower := fun hb h => ⟨h.1, fun hx => d.M_lower hb (h.2 hx)⟩
def H {α : Type} (d : Kd α) (e : Nat) (w : World) (base : Nat) (ok : Nat → Prop) (v : Value) (xs : List α) (i : Int) (oki : Nat → Prop) (c : List Value) : Prop :=
  (∀ k, oki k → ok k) ∧ ∃ f, (gap f d i.toNat c).R e w base (fun k => ok k ∧ ¬ oki k) v xs.zipIdx
end Kd
end Go.Proofs.YtbmnkchcekacfaaDoorW.PrintWords
end

section
namespace Go.Proofs.YtbmnkchcekacfaaDoorW.PrintWords
open Go.RowKit
namespace Kd
structure Heap {α : Type} (d : Kd α) : Prop where
  K : ∀ {w w1 : World} {x : α} {cs : List Value}, (∀ k, k < w.heap.size → w1.heap[k]? = w.heap[k]?) → d.K w x cs → d.K w1 x cs
theorem cell_heap {w w1 : World} (hb : ∀ k, k < w.heap.size → w1.heap[k]? = w.heap[k]?) {a : Addr} {v : Value} (h : w.cell? a = some v) : w1.cell? a = some v := by
  have := hb a.block (World.block_lt_of_cell? w a h)
  simpa [World.cell?, this] using h
theorem Heap.C {α : Type} {d : Kd α} (hd : Heap d) {w w1 : World} {A : Option Addr} {n : Nat} {xs : List α} (hb : ∀ k, k < w.heap.size → w1.heap[k]? = w.heap[k]?) (h : d.C w A n xs) : d.C w1 A n xs :=
  ⟨h.1, h.2.1, fun hn => by
    obtain ⟨ad, e, hc⟩ := h.2.2 hn
    refine ⟨ad, e, fun j p hj => ?_⟩
    obtain ⟨c, hs, hr, hcell⟩ := hc j p hj
    exact ⟨c, hs, hd.K hb hr, fun i u hu => cell_heap hb (hcell i u hu)⟩⟩
end Kd
end Go.Proofs.YtbmnkchcekacfaaDoorW.PrintWords
end

section
namespace Go.Proofs.YtbmnkchcekacfaaDoorW.PrintWords
open Go.RowKit
def Kept (w W : World) (S : Nat → Prop) : Prop := w.heap.size ≤ W.heap.size ∧ ∀ i, i < w.heap.size → ¬ S i → W.heap[i]? = w.heap[i]?
section
variable {w W W2 : World} {S S2 S' : Nat → Prop}
theorem Kept.refl (w : World) (S : Nat → Prop) : Kept w w S := ⟨Nat.le_refl _, fun _ _ _ => rfl⟩
theorem Kept.of_below (h : Below w.heap.size w W) (S : Nat → Prop) : Kept w W S := ⟨h.size, fun i hi _ => h.block i hi⟩
theorem Kept.mono (h : Kept w W S) (hs : ∀ k, S k → S' k) : Kept w W S' := ⟨h.1, fun i hi hn => h.2 i hi (fun hk => hn (hs i hk))⟩
theorem Kept.then_ (h : Kept w W S) (k : Kept W W2 S2) (hs : ∀ k, S2 k → S k ∨ w.heap.size ≤ k) : Kept w W2 S :=
  ⟨Nat.le_trans h.1 k.1, fun i hi hn => (k.2 i (Nat.lt_of_lt_of_le hi h.1) (fun h2 => (hs i h2).elim hn (fun h3 => by omega))).trans (h.2 i hi hn)⟩
theorem Kept.below (h : Kept w W S) (hb : Below W.heap.size W W2) : Kept w W2 S := h.then_ (Kept.of_below hb (fun _ => False)) (fun _ hk => hk.elim)
theorem Kept.alloc (h : Kept w W S) (o : Obj) : Kept w (W.alloc o) S := h.below (below_alloc (Below.refl _ _) o)
theorem Kept.drew (h : Kept w W S) : Kept w W.drew S := h
theorem Kept.drewN (h : Kept w W S) (m : Nat) : Kept w (W.drewN m) S := h
theorem Kept.setCell (h : Kept w W S) {p : Addr} (hp : S p.block ∨ w.heap.size ≤ p.block) (u : Value) : Kept w (W.setCell p u) S :=
  h.then_ (S2 := fun k => k = p.block) ⟨by simp [World.setCell], fun i _ hn => Below.heap_setCell W p u i hn⟩ (fun k hk => by rw [hk]; exact hp)
theorem Kept.keep {g : Nat} (h : KeepBut w W g none) (k : Kept W W2 S2) (hs : ∀ k, S2 k → w.heap.size ≤ k) : KeepBut w W2 g none :=
  ⟨Nat.le_trans h.1 k.1, fun i hi hg hr => (k.2 i (Nat.lt_of_lt_of_le hi h.1) (fun h2 => by have := hs i h2; omega)).trans (h.2 i hi hg hr)⟩
theorem cell_kept {a : Addr} {v : Value} (hc : W.cell? a = some v) (hk : Kept W W2 S) (hne : ¬ S a.block) : W2.cell? a = some v := by
  have := hk.2 a.block (World.block_lt_of_cell? W a hc) hne
  simpa [World.cell?, this] using hc
end
end Go.Proofs.YtbmnkchcekacfaaDoorW.PrintWords
end

section
namespace Go.Proofs.YtbmnkchcekacfaaDoorW.PrintWords
open Go.RowKit
def Foot (P : World → Prop) (W : World) (ok : Nat → Prop) : Prop := ∀ W' : World, (∀ k, ok k → k < W.heap.size → W'.heap[k]? = W.heap[k]?) → P W'
theorem heap_lt {W W1 : World} {k : Nat} (h : W1.heap[k]? = W.heap[k]?) (hlt : k < W.heap.size) : k < W1.heap.size := by
  rw [Array.getElem?_eq_getElem hlt] at h
  exact (Array.getElem?_eq_some_iff.1 h).1
namespace Foot
variable {P Q : World → Prop} {W W1 : World} {ok ok' : Nat → Prop}
theorem mono (h : Foot P W ok) (hok : ∀ k, ok k → ok' k) : Foot P W ok' := fun W' hW => h W' (fun k hk hlt => hW k (hok k hk) hlt)
theorem step (h : Foot P W ok) (hm : ∀ k, ok k → k < W.heap.size → W1.heap[k]? = W.heap[k]?) : Foot P W1 ok := fun W' hW => h W' (fun k hk hlt => (hW k hk (heap_lt (hm k hk hlt) hlt)).trans (hm k hk hlt))
theorem imp (h : Foot P W ok) (hi : ∀ W', P W' → Q W') : Foot Q W ok := fun W' hW => hi W' (h W' hW)
end Foot
namespace Kd
def F {α : Type} (d : Kd α) (W : World) (ok : Nat → Prop) (A : Option Addr) (n : Nat) (xs : List α) : Prop := Foot (fun W => d.C W A n xs) W ok
def FK {α : Type} (d : Kd α) (W : World) (ok : Nat → Prop) (x : α) (c : List Value) : Prop := Foot (fun W => d.K W x c) W ok
end Kd
end Go.Proofs.YtbmnkchcekacfaaDoorW.PrintWords
end

section
namespace Go.Proofs.YtbmnkchcekacfaaDoorW.PrintWords
open Go.RowKit
namespace Kd
section
variable {α : Type} {d : Kd α} {e base n cc g : Nat} {ok ok' okp S : Nat → Prop} {w w1 W W1 : World} {A : Option Addr} {u v v1 : Value} {xs : List α} {x : α} {c : List Value}
def N {α : Type} (d : Kd α) (e : Nat) (w : World) (base : Nat) (ok : Nat → Prop) (v : Value) (xs : List α) : Prop :=
  (∀ k, v.ownBlock = some k → ok k) ∧ ∃ rows : List (List Value), rows.length = xs.length ∧ (raw d.sz).R e w base (fun k => some k = v.ownBlock) v rows ∧ ∀ (j : Nat) (x : α) (c : List Value), xs[j]? = some x → rows[j]? = some c → FK d w (fun k => ok k ∧ some k ≠ v.ownBlock) x c
end
end Kd
end Go.Proofs.YtbmnkchcekacfaaDoorW.PrintWords
end

section
namespace Go.Proofs.YtbmnkchcekacfaaDoorW.PrintWords
open Go.RowKit
def mx (a b : Int) : Int := if a < b then b else a
def shr (k : IntKind) (x y : Int) : Int := x / 2 ^ min y.toNat k.bits
end Go.Proofs.YtbmnkchcekacfaaDoorW.PrintWords
namespace Go.Proofs.YtbmnkchcekacfaaDoorW.PrintWords
open Go.RowKit
namespace Kd
def V {α : Type} (d : Kd α) (_e : Nat) (W : World) (_base : Nat) (ok : Nat → Prop) (v : Value) (xs : List α) : Prop := ∃ A c, v = .slice A xs.length c ∧ xs.length ≤ c ∧ F d W ok A xs.length xs
end Kd
end Go.Proofs.YtbmnkchcekacfaaDoorW.PrintWords
end

section
namespace Go.Proofs.YtbmnkchcekacfaaDoorW.PrintLast
open Go.Proofs.YtbmnkchcekacfaaDoorW.PrintWords (Aside0)
def needsOf (md : Region.Mode) (o : Oper) : List Nat := (o.after.toList.filter (fun e => Region.binds md e)).map (fun e => e.on)
def clashOf (md : Region.Mode) (ops : Array Oper) (i : Nat) (oi : Oper) : List Nat := (List.range ops.size).filter fun j => !(j == i) && match ops[j]? with
  | some oj => !(oj.after.any (fun e => Region.binds md e && e.on == i) || oi.apart ops oj)
  | none => false
def rtab (md : Region.Mode) (ops : Array Oper) : Bool × List (List Nat × List Nat) := (Region.noSelect ops, (List.range ops.size).map fun i => match ops[i]? with
  | some o => (needsOf md o, clashOf md ops i o)
  | none => ([], []))
def readyAt (T : List (List Nat × List Nat)) (l : List Bool) (i : Nat) : Bool := !l.getD i true && match T[i]? with
  | some r => r.1.all (fun j => l.getD j false)
  | none => false
def readyT (T : List (List Nat × List Nat)) (l : List Bool) : List Nat := (List.range T.length).filter (readyAt T l)
def freeT (T : List (List Nat × List Nat)) (l : List Bool) (i : Nat) : Bool := match T[i]? with
  | some r => r.2.all (fun j => l.getD j true)
  | none => false
def closedT (T : List (List Nat × List Nat)) (l : List Bool) : Bool := (List.range T.length).all fun j => !l.getD j false || match T[j]? with
  | some r => r.1.all (fun k => l.getD k false)
  | none => true
def reachT (T : List (List Nat × List Nat)) (i : Nat) : Nat → Nat → Bool
  | 0, _ => false
  | fuel + 1, d => match T[d]? with
    | some r => r.1.any fun j => j == i || reachT T i fuel j
    | none => false
def lastT (T : List (List Nat × List Nat)) (l : List Bool) (ds : List Nat) (i : Nat) : Bool := ds.all fun d => l.getD d true || reachT T i T.length d
section
variable {md : Region.Mode} {ops : Array Oper} {T : Bool × List (List Nat × List Nat)} {l l' li lj lk : Array Bool} {ds : List Nat} {i j k : Nat}
theorem gd (l : Array Bool) (j : Nat) (b : Bool) : l.getD j b = l.toList.getD j b := by simp [Array.getD_eq_getD_getElem?, List.getD_eq_getElem?_getD]
theorem needs_all (o : Oper) (p : Nat → Bool) : o.after.all (fun e => !Region.binds md e || p e.on) = (needsOf md o).all p := by
  unfold needsOf
  rw [← Array.all_toList]
  induction o.after.toList with
  | nil => rfl
  | cons e r ih =>
    rw [List.all_cons, ih, List.filter_cons]
    cases h : Region.binds md e <;> simp
theorem needs_any (o : Oper) (p : Nat → Bool) : o.after.any (fun e => Region.binds md e && p e.on) = (needsOf md o).any p := by
  unfold needsOf
  rw [← Array.any_toList]
  induction o.after.toList with
  | nil => rfl
  | cons e r ih =>
    rw [List.any_cons, ih, List.filter_cons]
    cases h : Region.binds md e <;> simp
theorem rtab_length : (rtab md ops).2.length = ops.size := by simp [rtab]
theorem rtab_some {o : Oper} (h : ops[i]? = some o) : (rtab md ops).2[i]? = some (needsOf md o, clashOf md ops i o) := by
  have hi := (Array.getElem?_eq_some_iff.1 h).1
  unfold rtab
  rw [List.getElem?_map, List.getElem?_range hi, Option.map_some, h]
theorem rtab_none (h : ops[i]? = none) : (rtab md ops).2[i]? = none := by
  have hi : ops.size ≤ i := Array.getElem?_eq_none_iff.1 h
  exact List.getElem?_eq_none (by rw [rtab_length]; exact hi)
theorem readyAt_eq : readyAt (rtab md ops).2 l.toList i = (!l.getD i true && ((ops[i]?).map (·.after.all fun e => !Region.binds md e || l.getD e.on false)).getD false) := by
  unfold readyAt
  rw [gd]
  cases h : ops[i]? with
  | none => rw [rtab_none h]; rfl
  | some o =>
    rw [rtab_some h]
    simp only [Option.map_some, Option.getD_some]
    rw [← needs_all]
    simp only [gd]
theorem ready_eq : Region.ready md ops l = readyT (rtab md ops).2 l.toList := by
  unfold Region.ready readyT
  rw [rtab_length]
  refine List.filter_congr (fun i _ => ?_)
  rw [readyAt_eq]
theorem free_eq : Region.free md ops l i = freeT (rtab md ops).2 l.toList i := by
  unfold Region.free freeT
  cases h : ops[i]? with
  | none => rw [rtab_none h]
  | some oi =>
    rw [rtab_some h]
    simp only [clashOf]
    rw [List.all_filter]
    congr 1
    funext j
    rw [gd]
    cases hj : ops[j]? with
    | none => cases (j == i) <;> cases (l.toList.getD j true) <;> simp
    | some oj =>
      cases (j == i) <;> cases (l.toList.getD j true) <;> cases (oj.after.any (fun e => Region.binds md e && e.on == i) || oi.apart ops oj) <;> simp_all
theorem closed_eq : Region.closedB md ops l = closedT (rtab md ops).2 l.toList := by
  unfold Region.closedB closedT
  rw [rtab_length]
  congr 1
  funext j
  rw [gd]
  cases h : ops[j]? with
  | none => rw [rtab_none h]
  | some o =>
    rw [rtab_some h]
    simp only
    rw [← needs_all]
    simp only [gd]
theorem reach_eq : ∀ (fuel d : Nat), Region.reachB md ops i fuel d = reachT (rtab md ops).2 i fuel d
  | 0, _ => rfl
  | fuel + 1, d => by
    unfold Region.reachB reachT
    cases h : ops[d]? with
    | none => rw [rtab_none h]
    | some o =>
      rw [rtab_some h]
      simp only
      rw [← needs_any]
      congr 1
      funext e
      rw [reach_eq fuel]
theorem last_eq : Region.lastB md ops l ds i = lastT (rtab md ops).2 l.toList ds i := by
  unfold Region.lastB lastT
  rw [rtab_length]
  congr 1
  funext d
  rw [gd, reach_eq]
theorem readyAt_mem (h : readyAt T.2 l.toList i = true) (hT : rtab md ops = T) : (Region.ready md ops l).contains i = true := by
  subst hT
  rw [ready_eq]
  unfold readyT
  rw [List.contains_iff_mem, List.mem_filter, List.mem_range]
  refine ⟨?_, h⟩
  unfold readyAt at h
  rw [Bool.and_eq_true] at h
  cases hq : (rtab md ops).2[i]? with
  | none => rw [hq] at h; simp at h
  | some r => exact (List.getElem?_eq_some_iff.1 hq).1
theorem set_of (h : (l.toList.set i true == l'.toList) = true) : (l.setIfInBounds i true == l') = true := by
  rw [beq_iff_eq] at h ⊢
  apply Array.ext'
  rw [Array.toList_setIfInBounds]
  exact h
def anyT (T : Bool × List (List Nat × List Nat)) (l l' : List Bool) (i : Nat) : Bool := T.1 && freeT T.2 l i && readyAt T.2 l i && (l.set i true == l')
theorem any_of (hT : rtab md ops = T) (h : anyT T l.toList l'.toList i = true) : anyB md ops l l' i = true := by
  simp only [anyT, Bool.and_eq_true] at h
  obtain ⟨⟨⟨h1, h2⟩, h3⟩, h4⟩ := h
  have h5 := readyAt_mem h3 hT
  have h6 := set_of h4
  subst hT
  simp only [anyB, Bool.and_eq_true]
  exact ⟨⟨⟨h1, by rw [free_eq]; exact h2⟩, h5⟩, h6⟩
def takeT (T : Bool × List (List Nat × List Nat)) (ds : List Nat) (l l' : List Bool) (i : Nat) : Bool := T.1 && freeT T.2 l i && readyAt T.2 l i && closedT T.2 l && lastT T.2 l ds i && (l.set i true == l')
theorem take_of (hT : rtab md ops = T) (h : takeT T ds l.toList l'.toList i = true) : takeB md ops ds l l' i = true := by
  simp only [takeT, Bool.and_eq_true] at h
  obtain ⟨⟨⟨⟨⟨h1, h2⟩, h3⟩, h4⟩, h5⟩, h6⟩ := h
  have h7 := readyAt_mem h3 hT
  have h8 := set_of h6
  subst hT
  simp only [takeB, Bool.and_eq_true]
  exact ⟨⟨⟨⟨⟨h1, by rw [free_eq]; exact h2⟩, h7⟩, by rw [closed_eq]; exact h4⟩, by rw [last_eq]; exact h5⟩, h8⟩
theorem one_of (hT : rtab md ops = T) (h : (readyT T.2 l.toList == [i] && l.toList.set i true == l'.toList) = true) : readyB md ops l l' i = true := by
  simp only [Bool.and_eq_true] at h
  obtain ⟨h1, h2⟩ := h
  subst hT
  simp only [readyB, Bool.and_eq_true]
  exact ⟨by rw [ready_eq]; exact h1, set_of h2⟩
theorem done_of (hT : rtab md ops = T) (h : (readyT T.2 l.toList == []) = true) : (Region.ready md ops l == []) = true := by
  subst hT
  rw [ready_eq]
  exact h
def upM (B : List Nat) (d : Nat) : List Nat → Nat
  | [] => 0
  | n :: r => (2 ^ n ||| (if n < d then B.getD n 0 else 0)) ||| upM B d r
def zW (T : List (List Nat × List Nat)) (B : List Nat) : Bool := (List.range T.length).all fun d => match T[d]? with
  | some r => (B.getD d 0 ||| upM B d r.1) == upM B d r.1
  | none => false
theorem upM_bit {B : List Nat} {d i : Nat} : ∀ {ns : List Nat}, (upM B d ns).testBit i = true → ∃ n ∈ ns, n = i ∨ (n < d ∧ (B.getD n 0).testBit i = true)
  | [], h => by simp [upM] at h
  | n :: r, h => by
    unfold upM at h
    rw [Nat.testBit_or, Nat.testBit_or, Bool.or_eq_true, Bool.or_eq_true] at h
    rcases h with (h | h) | h
    · rw [Nat.testBit_two_pow] at h
      exact ⟨n, List.mem_cons_self, .inl (by simpa using h)⟩
    · by_cases hn : n < d
      · rw [if_pos hn] at h
        exact ⟨n, List.mem_cons_self, .inr ⟨hn, h⟩⟩
      · rw [if_neg hn] at h
        simp at h
    · obtain ⟨m, hm, h2⟩ := upM_bit h
      exact ⟨m, List.mem_cons_of_mem _ hm, h2⟩
theorem reach_bit {T : List (List Nat × List Nat)} {B : List Nat} (hB : zW T B = true) : ∀ (fuel d : Nat), d < fuel → d < T.length → (B.getD d 0).testBit i = true → reachT T i fuel d = true
  | 0, d, h, _, _ => by omega
  | fuel + 1, d, h, hd, hb => by
    have h1 := List.all_eq_true.1 hB d (List.mem_range.2 hd)
    cases hr : T[d]? with
    | none => rw [hr] at h1; simp at h1
    | some r =>
      rw [hr] at h1
      simp only [beq_iff_eq] at h1
      have h2 : (upM B d r.1).testBit i = true := by rw [← h1, Nat.testBit_or, hb, Bool.true_or]
      obtain ⟨n, hn, h3⟩ := upM_bit h2
      unfold reachT
      rw [hr]
      simp only
      rw [List.any_eq_true]
      refine ⟨n, hn, ?_⟩
      rcases h3 with rfl | ⟨h4, h5⟩
      · simp
      · rw [reach_bit hB fuel n (by omega) (by omega) h5, Bool.or_true]
def lastW (T : List (List Nat × List Nat)) (B : List Nat) (l : List Bool) (ds : List Nat) (i : Nat) : Bool := ds.all fun d => l.getD d true || (decide (d < T.length) && (B.getD d 0).testBit i)
def takeW (T : Bool × List (List Nat × List Nat)) (B : List Nat) (ds : List Nat) (l l' : List Bool) (i : Nat) : Bool := T.1 && freeT T.2 l i && readyAt T.2 l i && closedT T.2 l && lastW T.2 B l ds i && (l.set i true == l')
theorem take_ofW {B : List Nat} (hT : rtab md ops = T) (hB : zW T.2 B = true) (h : takeW T B ds l.toList l'.toList i = true) : takeB md ops ds l l' i = true := by
  refine take_of hT ?_
  simp only [takeW, takeT, Bool.and_eq_true] at h ⊢
  obtain ⟨⟨⟨⟨⟨h1, h2⟩, h3⟩, h4⟩, h5⟩, h6⟩ := h
  refine ⟨⟨⟨⟨⟨h1, h2⟩, h3⟩, h4⟩, ?_⟩, h6⟩
  unfold lastW at h5
  unfold lastT
  rw [List.all_eq_true] at h5 ⊢
  intro d hd
  have h7 := h5 d hd
  rw [Bool.or_eq_true, Bool.and_eq_true, decide_eq_true_eq] at h7
  rcases h7 with h7 | ⟨h8, h9⟩
  · rw [h7, Bool.true_or]
  · rw [reach_bit hB _ d h8 h8 h9, Bool.or_true]
theorem with_tabW {P : Program} {Q : Exit → Act → World → Prop} {S : World → Prop} {n : Nat} {a : Act} {w : World} {B : List Nat} (hT : rtab md ops = T) (hB : zW T.2 B = true) (h : Aside0 (rtab md ops = T) → Aside0 (zW T.2 B = true) → yD P md ops Q S ds n l a w) : yD P md ops Q S ds n l a w := h ⟨hT⟩ ⟨hB⟩
end
def opsIn : Code → Nat → Option (Array Oper)
  | .region id ops _, k => if id == k then some ops else none
  | .seq a b, k => match opsIn a k with
    | some o => some o
    | none => opsIn b k
  | .cond _ a b, k => match opsIn a k with
    | some o => some o
    | none => opsIn b k
  | .block _ c, k => opsIn c k
  | .loop c, k => opsIn c k
  | .scope c, k => opsIn c k
  | .rangeFunc _ _ a b, k => match opsIn a k with
    | some o => some o
    | none => opsIn b k
  | _, _ => none
def opsOf (f : Func) (k : Nat) : Array Oper := ((f.body.bind fun c => opsIn c k)).getD #[]
end Go.Proofs.YtbmnkchcekacfaaDoorW.PrintLast
end

section
namespace Go.Proofs.YtbmnkchcekacfaaDoorW.PrintWords
theorem Reps.one {α : Type} {R : α → List Value → Prop} {ps : List α} {cs : List Value} {p : α} {v : Value} (hp : R p [v]) (h : Reps R 1 ps cs) : Reps R 1 (p :: ps) (v :: cs) := by
  refine ⟨by simp [h.1], fun j q hq => ?_⟩
  cases j with
  | zero =>
    simp only [List.getElem?_cons_zero, Option.some.injEq] at hq
    subst hq
    simpa using hp
  | succ j =>
    simp only [List.getElem?_cons_succ] at hq
    have h1 := h.2 j q hq
    simpa [Nat.mul_one] using h1
theorem Reps.front {α : Type} {R : α → List Value → Prop} {size : Nat} {ps : List α} {cs c all : List Value} {p : α} (hp : R p c) (hc : c.length = size) (h : Reps R size ps cs) (ha : c ++ cs = all) : Reps R size (p :: ps) all := by
  subst ha
  refine ⟨by rw [List.length_append, hc, h.1, List.length_cons, Nat.succ_mul, Nat.add_comm], fun j q hq => ?_⟩
  cases j with
  | zero =>
    simp only [List.getElem?_cons_zero, Option.some.injEq] at hq
    subst hq
    rw [Nat.zero_mul, List.drop_zero, List.take_append_of_le_length (by omega), List.take_of_length_le (by omega)]
    exact hp
  | succ j =>
    simp only [List.getElem?_cons_succ] at hq
    have h1 := h.2 j q hq
    rw [Nat.succ_mul, List.drop_append, List.drop_of_length_le (by rw [hc]; exact Nat.le_add_left _ _), List.nil_append, hc, Nat.add_sub_cancel]
    exact h1
theorem Reps.c2 {α : Type} {R : α → List Value → Prop} {ps : List α} {cs : List Value} {p : α} {va vb : Value} (hp : R p [va, vb]) (h : Reps R 2 ps cs) : Reps R 2 (p :: ps) (va :: vb :: cs) := Reps.front hp rfl h rfl
theorem Reps.c3 {α : Type} {R : α → List Value → Prop} {ps : List α} {cs : List Value} {p : α} {va vb vc : Value} (hp : R p [va, vb, vc]) (h : Reps R 3 ps cs) : Reps R 3 (p :: ps) (va :: vb :: vc :: cs) := Reps.front hp rfl h rfl
theorem Reps.c4 {α : Type} {R : α → List Value → Prop} {ps : List α} {cs : List Value} {p : α} {va vb vc vd : Value} (hp : R p [va, vb, vc, vd]) (h : Reps R 4 ps cs) : Reps R 4 (p :: ps) (va :: vb :: vc :: vd :: cs) := Reps.front hp rfl h rfl
theorem Reps.c5 {α : Type} {R : α → List Value → Prop} {ps : List α} {cs : List Value} {p : α} {va vb vc vd ve : Value} (hp : R p [va, vb, vc, vd, ve]) (h : Reps R 5 ps cs) : Reps R 5 (p :: ps) (va :: vb :: vc :: vd :: ve :: cs) := Reps.front hp rfl h rfl
theorem Reps.c6 {α : Type} {R : α → List Value → Prop} {ps : List α} {cs : List Value} {p : α} {va vb vc vd ve vf : Value} (hp : R p [va, vb, vc, vd, ve, vf]) (h : Reps R 6 ps cs) : Reps R 6 (p :: ps) (va :: vb :: vc :: vd :: ve :: vf :: cs) := Reps.front hp rfl h rfl
theorem Reps.c7 {α : Type} {R : α → List Value → Prop} {ps : List α} {cs : List Value} {p : α} {va vb vc vd ve vf vg : Value} (hp : R p [va, vb, vc, vd, ve, vf, vg]) (h : Reps R 7 ps cs) : Reps R 7 (p :: ps) (va :: vb :: vc :: vd :: ve :: vf :: vg :: cs) := Reps.front hp rfl h rfl
end Go.Proofs.YtbmnkchcekacfaaDoorW.PrintWords
end

section
namespace Go.Proofs.YtbmnkchcekacfaaDoor.P
set_option linter.unusedVariables false
set_option linter.unusedSimpArgs false
open Go.RowKit Go.ChangeShapes Go.WideShapes Go.Proofs.YtbmnkchcekacfaaDoorW.PrintWords Go.Proofs.YtbmnkchcekacfaaDoorW.PrintLast Go.Proofs.YtbmnkchcekacfaaDoorW.PrintMore
@[local go_sem] theorem setCell_drewN (w : World) (n : Nat) (a : Addr) (v : Value) : (w.drewN n).setCell a v = (w.setCell a v).drewN n := rfl
structure Aside0 (p : Prop) : Prop where
  out : p
theorem bel_drewN {B : Nat} {w W : World} (h : Below B w W) (n : Nat) : Below B w (W.drewN n) := ⟨h.os, h.tape, h.output, h.size, h.block⟩
theorem bel_two (w : World) (a b : Obj) : Below w.heap.size w ((w.alloc a).alloc b) := ((Below.refl _ _).alloc (Nat.le_refl _) a).alloc (by have := ((Below.refl w.heap.size w).alloc (Nat.le_refl _) a).size; exact this) b
theorem u64w (x : Int) (h0 : 0 ≤ x) (h1 : x < 18446744073709551616) : IntKind.u64.wrap x = x := by
  have : x % 18446744073709551616 = x := by omega
  exact this
theorem three_new (w : World) (a b c : Obj) : (((w.alloc a).alloc b).alloc c).heap[w.heap.size + 1 + 1]? = some c := by
  have h := heap_alloc_new ((w.alloc a).alloc b) c
  have e : ((w.alloc a).alloc b).heap.size = w.heap.size + 1 + 1 := by simp
  rwa [e] at h
theorem bel_three (w : World) (a b c : Obj) : Below w.heap.size w (((w.alloc a).alloc b).alloc c) := (bel_two w a b).alloc (bel_two w a b).size c
theorem yJ {B : Nat} {w W : World} (h : Below B w W) (a : Addr) (v : Value) (ha : B ≤ a.block) : Below B w (W.setCell a v) := h.setCell ha v
def putA : Array Value → Nat → List Value → Array Value
  | cs, _, [] => cs
  | cs, o, v :: r => putA (cs.setIfInBounds o v) (o + 1) r
theorem setCells_row {g : Nat} {t : TypeId} : ∀ (vs : List Value) (o : Nat) (w : World) (cs : Array Value), w.heap[g]? = some (.cells cs t (0, 0)) → (w.setCells g o vs).heap[g]? = some (.cells (putA cs o vs) t (0, 0))
  | [], _, _, _, h => h
  | v :: r, o, w, cs, h => setCells_row r (o + 1) _ _ (heap_setCell_same w g o cs t v h)
theorem putA_size : ∀ (vs : List Value) (o : Nat) (cs : Array Value), (putA cs o vs).size = cs.size
  | [], _, _ => rfl
  | v :: r, o, cs => by rw [putA, putA_size r]; simp
theorem putA_get : ∀ (vs : List Value) (o : Nat) (cs : Array Value) (j : Nat), o + vs.length ≤ cs.size → (putA cs o vs)[j]? = if o ≤ j ∧ j < o + vs.length then vs[j - o]? else cs[j]?
  | [], o, cs, j, h => by
    have : ¬ (o ≤ j ∧ j < o + ([] : List Value).length) := by simp only [List.length_nil]; omega
    rw [if_neg this]; rfl
  | v :: r, o, cs, j, h => by
    simp only [List.length_cons] at h
    rw [putA, putA_get r (o + 1) _ j (by simp; omega)]
    simp only [List.length_cons]
    by_cases h1 : j = o
    · subst h1
      rw [if_neg (by omega), if_pos (by omega)]
      simp only [Nat.sub_self, List.getElem?_cons_zero]
      rw [Array.getElem?_setIfInBounds_self_of_lt (by omega)]
    · rw [Array.getElem?_setIfInBounds_ne (by omega)]
      by_cases h2 : o ≤ j ∧ j < o + (r.length + 1)
      · rw [if_pos (by omega), if_pos h2]
        have e : j - o = (j - (o + 1)) + 1 := by omega
        rw [e, List.getElem?_cons_succ]
      · rw [if_neg (by omega), if_neg h2]
theorem putA_full (vs : List Value) (cs : Array Value) (h : vs.length = cs.size) : putA cs 0 vs = vs.toArray := by
  apply Array.ext_getElem?
  intro j
  rw [putA_get vs 0 cs j (by omega)]
  simp only [Nat.zero_le, true_and, Nat.zero_add, Nat.sub_zero, List.getElem?_toArray]
  by_cases hj : j < vs.length
  · rw [if_pos hj]
  · rw [if_neg hj, Array.getElem?_eq_none (by omega), List.getElem?_eq_none (by omega)]
theorem row_set_all {w : World} {g : Nat} {t : TypeId} {cs vs : Array Value} (hg : w.heap[g]? = some (.cells cs t (0, 0))) (hs : vs.size = cs.size) : (w.setCells g 0 vs.toList).heap[g]? = some (.cells vs t (0, 0)) := by
  have h := setCells_row vs.toList 0 w cs hg
  rw [putA_full _ _ (by simpa using hs)] at h
  simpa using h
theorem yG {B g : Nat} {w : World} (hg : B ≤ g) : ∀ (vs : List Value) (o : Nat) (W : World), Below B w W → Below B w (W.setCells g o vs)
  | [], _, _, h => h
  | v :: r, o, W, h => yG hg r (o + 1) _ (h.setCell hg v)
theorem setCells_size (g : Nat) : ∀ (vs : List Value) (o : Nat) (W : World), (W.setCells g o vs).heap.size = W.heap.size
  | [], _, _ => rfl
  | v :: r, o, W => by rw [World.setCells, setCells_size g r]; simp [World.setCell]
theorem setCells_other {g k : Nat} (h : k ≠ g) : ∀ (vs : List Value) (o : Nat) (W : World), (W.setCells g o vs).heap[k]? = W.heap[k]?
  | [], _, _ => rfl
  | v :: r, o, W => by rw [World.setCells, setCells_other h r]; exact heap_setCell_other _ _ _ _ h
theorem run_storeVar_row {P : Program} (ty : TypeId) (ie : TypeInfo) (hie : P.info? ty = some ie) (g : Nat) (t : TypeId) (cs vs : Array Value) (w : World) (hg : w.heap[g]? = some (.cells cs t (0, 0))) (hs : vs.size = cs.size) (hi : cs.size = ie.size)
    (h1 : ∀ v ∈ vs.toList, v.oneCell' = true) : (storeVar ty ⟨g, 0, none⟩ (.agg vs)).run P w = .ok () (w.setCells g 0 vs.toList) := by
  have h := run_storeCells_cells (P := P) g 0 vs.toList 0 w
    (fun k hk => by
      rw [Nat.add_zero, Nat.zero_add, cell_of_row w g k cs t _ hg, Array.getElem?_eq_getElem (by simp at hk; omega)]; rfl)
    (fun k hk => frozen_of_row w g _ cs t hg) h1
  have hti : (typeInfo ty).run P w = .ok ie w := by simp [typeInfo, hie]
  simp [storeVar, Value.cells, sizeOf, hti, hs, hi, h, Result.andThen]
theorem wpList_store_row {P : Program} {ops : Array Oper} {rest : List Oper} {o : Oper} {a : Act} {w : World} {Q : Exit → Act → World → Prop} (hgd : o.guard = none) (ty : TypeId) (x y : Operand) (ho : o.op = .store ty x y)
    (g : Nat) (hx : a.eval x = .pointer (some ⟨g, 0, none⟩)) (vs : Array Value) (hy : a.eval y = .agg vs) (ie : TypeInfo) (hie : P.info? ty = some ie) (t : TypeId) (cs : Array Value) (hg : w.heap[g]? = some (.cells cs t (0, 0)))
    (hs : vs.size = cs.size) (hi : cs.size = ie.size) (h1 : ∀ v ∈ vs.toList, v.oneCell' = true)
    (h : wpList P ops Q rest (a.put o.dst undef) (w.setCells g 0 vs.toList)) : wpList P ops Q (o :: rest) a w := by
  refine wpList_plain hgd fun K hK => ?_
  unfold Oper.wp execOp
  simp only [ho, hx, hy, Instr.storeAt, Instr.sureAddr, Sem.run_bind, Sem.run_pure, Result.andThen_ok, run_storeVar_row ty ie hie g t cs vs w hg hs hi h1]
  exact hK _ _ h
def FR (k : IntKind) (n : Nat) (f : Nat → Int) : Array Value := ((List.range n).map fun i => Value.int k (f i)).toArray
theorem FR_size (k : IntKind) (n : Nat) (f : Nat → Int) : (FR k n f).size = n := by simp [FR]
theorem FR_at (k : IntKind) (n : Nat) (f : Nat → Int) (i : Nat) (h : i < n) : (FR k n f)[i]? = some (.int k (f i)) := by simp [FR, h]
theorem FR_out (k : IntKind) (n : Nat) (f : Nat → Int) (i : Nat) (h : ¬ i < n) : (FR k n f)[i]? = none := by
  apply Array.getElem?_eq_none; rw [FR_size]; omega
theorem FR_one (k : IntKind) (n : Nat) (f : Nat → Int) : ∀ v ∈ (FR k n f).toList, v.oneCell' = true := by
  intro v hv
  simp only [FR, List.mem_map] at hv
  obtain ⟨i, _, rfl⟩ := hv
  rfl
def upd (f : Nat → Int) (i : Nat) (x : Int) : Nat → Int := fun j => if j = i then x else f j
theorem upd_same (f : Nat → Int) (i : Nat) (x : Int) : upd f i x i = x := if_pos rfl
theorem upd_other (f : Nat → Int) (i j : Nat) (x : Int) (h : j ≠ i) : upd f i x j = f j := if_neg h
theorem FR_congr (k : IntKind) (n : Nat) (f f' : Nat → Int) (h : ∀ i, i < n → f i = f' i) : FR k n f = FR k n f' := by
  unfold FR
  congr 1
  apply List.map_congr_left
  intro i hi
  rw [h i (List.mem_range.1 hi)]
theorem FR_set (k : IntKind) (n : Nat) (f : Nat → Int) (i : Nat) (x : Int) (h : i < n) : (FR k n f).setIfInBounds i (.int k x) = FR k n (upd f i x) := by
  apply Array.ext_getElem?
  intro j
  by_cases hj : j = i
  · subst hj
    rw [Array.getElem?_setIfInBounds_self_of_lt (by rw [FR_size]; exact h), FR_at _ _ _ _ h, upd_same]
  · rw [Array.getElem?_setIfInBounds_ne (fun e => hj e.symm)]
    by_cases hn : j < n
    · rw [FR_at _ _ _ _ hn, FR_at _ _ _ _ hn, upd_other _ _ _ _ hj]
    · rw [FR_out _ _ _ _ hn, FR_out _ _ _ _ hn]
def Row (w : World) (g : Nat) (k : IntKind) (n : Nat) (f : Nat → Int) (t : TypeId) : Prop := w.heap[g]? = some (.cells (FR k n f) t (0, 0))
theorem Row.cell {w : World} {g : Nat} {k : IntKind} {n : Nat} {f : Nat → Int} {t : TypeId} (h : Row w g k n f t) (i : Nat) (hi : i < n) : w.cell? ⟨g, i, none⟩ = some (.int k (f i)) := by
  rw [cell_of_row w g i _ t _ h, FR_at _ _ _ _ hi]
theorem Row.fro {w : World} {g : Nat} {k : IntKind} {n : Nat} {f : Nat → Int} {t : TypeId} (h : Row w g k n f t) (i : Nat) : w.frozen? ⟨g, i, none⟩ = false := frozen_of_row w g i _ t h
theorem Row.set {w : World} {g : Nat} {k : IntKind} {n : Nat} {f : Nat → Int} {t : TypeId} (h : Row w g k n f t) (i : Nat) (x : Int) (hi : i < n) : Row (w.setCell ⟨g, i, none⟩ (.int k x)) g k n (upd f i x) t := by
  have := heap_setCell_same w g i _ t (.int k x) h
  rwa [FR_set _ _ _ _ _ hi] at this
theorem Row.other {w : World} {g : Nat} {k : IntKind} {n : Nat} {f : Nat → Int} {t : TypeId} (h : Row w g k n f t) (a : Addr) (v : Value) (ha : g ≠ a.block) : Row (w.setCell a v) g k n f t :=
  (heap_setCell_other w a g v ha).trans h
theorem Row.lt {w : World} {g : Nat} {k : IntKind} {n : Nat} {f : Nat → Int} {t : TypeId} (h : Row w g k n f t) : g < w.heap.size := (Array.getElem?_eq_some_iff.1 h).1
theorem Row.alloc {w : World} {g : Nat} {k : IntKind} {n : Nat} {f : Nat → Int} {t : TypeId} (h : Row w g k n f t) (o : Obj) : Row (w.alloc o) g k n f t := by
  have hlt := h.lt
  have e : (w.alloc o).heap[g]? = w.heap[g]? := Below.heap_alloc w o g hlt
  exact e.trans h
theorem Row.new (w : World) (k : IntKind) (n : Nat) (f : Nat → Int) (t : TypeId) : Row (w.alloc (.cells (FR k n f) t)) w.heap.size k n f t := heap_alloc_new w _
theorem Row.below {w w' : World} {B g : Nat} {k : IntKind} {n : Nat} {f : Nat → Int} {t : TypeId} (h : Row w g k n f t) (hb : Below B w w') (hg : g < B) : Row w' g k n f t := (hb.block g hg).trans h
theorem Row.drewN {w : World} {g : Nat} {k : IntKind} {n : Nat} {f : Nat → Int} {t : TypeId} (h : Row w g k n f t) (m : Nat) : Row (w.drewN m) g k n f t := h
theorem Row.all {w : World} {g : Nat} {k : IntKind} {n : Nat} {f f' : Nat → Int} {t : TypeId} (h : Row w g k n f t) : Row (w.setCells g 0 (FR k n f').toList) g k n f' t := row_set_all h (by rw [FR_size, FR_size])
theorem Row.cells_other {w : World} {g g' : Nat} {k : IntKind} {n : Nat} {f : Nat → Int} {t : TypeId} (h : Row w g k n f t) (vs : List Value) (hg : g ≠ g') : Row (w.setCells g' 0 vs) g k n f t := (setCells_other hg vs 0 w).trans h
theorem zX {P : Program} {ops : Array Oper} {rest : List Oper} {o : Oper} {a : Act} {w : World} {Q : Exit → Act → World → Prop} {k : IntKind} {n : Nat} {f : Nat → Int} {t ty : TypeId} {x : Operand} {g : Nat} {d : TypeDesc}
    (hr : Row w g k n f t) (hu : P.underlying ty = some d) (hi : (P.info? ty).map (·.size) = some n) (hd : (match d with | .struct _ | .array _ _ => true | _ => false) = true) (hgd : o.guard = none) (ho : o.op = .load ty x) (hx : a.eval x = .pointer (some ⟨g, 0, none⟩))
    (h : wpList P ops Q rest (a.put o.dst (.agg (FR k n f))) w) : wpList P ops Q (o :: rest) a w :=
  wpList_load_row hgd ty x ho g hx t (FR k n f) (0, 0) d hr hu hd (by rw [FR_size]; exact hi) h
theorem step_store {P : Program} {ops : Array Oper} {rest : List Oper} {o : Oper} {a : Act} {w : World} {Q : Exit → Act → World → Prop} {k : IntKind} {n : Nat} {f : Nat → Int} {t ty : TypeId} {x y : Operand} {g : Nat}
    (f' : Nat → Int) (hr : Row w g k n f t) (hi : (P.info? ty).map (·.size) = some n) (hgd : o.guard = none) (hdst : o.dst = none) (ho : o.op = .store ty x y) (hx : a.eval x = .pointer (some ⟨g, 0, none⟩)) (hy : a.eval y = .agg (FR k n f'))
    (h : wpList P ops Q rest a (w.setCells g 0 (FR k n f').toList)) : wpList P ops Q (o :: rest) a w := by
  obtain ⟨ie, hie, hs⟩ : ∃ ie, P.info? ty = some ie ∧ ie.size = n := by
    cases he : P.info? ty with
    | none => rw [he] at hi; cases hi
    | some ie => rw [he] at hi; exact ⟨ie, rfl, Option.some.inj hi⟩
  exact wpList_store_row hgd ty x y ho g hx (FR k n f') hy ie hie t (FR k n f) hr (by rw [FR_size, FR_size]) (by rw [FR_size, hs]) (FR_one k n f') (by rw [hdst]; exact h)
structure Stored (w w' : World) (g : Nat) : Prop where
  other : ∀ k, k ≠ g → w'.heap[k]? = w.heap[k]?
  size : w'.heap.size = w.heap.size
  bel : ∀ B W, B ≤ g → Below B W w → Below B W w'
theorem Row.stored {w w' : World} {g g' : Nat} {k : IntKind} {n : Nat} {f : Nat → Int} {t : TypeId} (h : Row w g k n f t) (hs : Stored w w' g') (hg : g ≠ g') : Row w' g k n f t := (hs.other g hg).trans h
theorem zQ {P : Program} {ops : Array Oper} {rest : List Oper} {o : Oper} {a : Act} {w : World} {Q : Exit → Act → World → Prop} {k : IntKind} {n : Nat} {f : Nat → Int} {t ty : TypeId} {x y : Operand} {g : Nat}
    (f' : Nat → Int) (hr : Row w g k n f t) (hi : (P.info? ty).map (·.size) = some n) (hgd : o.guard = none) (hdst : o.dst = none) (ho : o.op = .store ty x y) (hx : a.eval x = .pointer (some ⟨g, 0, none⟩)) (hy : a.eval y = .agg (FR k n f'))
    (h : ∀ w', Stored w w' g → Row w' g k n f' t → wpList P ops Q rest a w') : wpList P ops Q (o :: rest) a w :=
  step_store f' hr hi hgd hdst ho hx hy (h _ ⟨fun k hk => setCells_other hk _ _ _, setCells_size g _ _ _, fun B W hB hb => yG hB _ _ _ hb⟩ hr.all)
theorem zY {P : Program} {fn : Func} {p : Tmp} {ty : TypeId} (h : fn.results = #[.cell p ty]) {tmps : Array Value} {w : World} {g : Nat} {k : IntKind} {n : Nat} {f : Nat → Int} {t : TypeId} {d : TypeDesc}
    (hr : Row w g k n f t) (hp : tmps.getD p undef = .pointer (some ⟨g, 0, none⟩)) (hu : P.underlying ty = some d) (hd : (match d with | .struct _ | .array _ _ => true | _ => false) = true) (hi : (P.info? ty).map (·.size) = some n) :
    (results fn tmps).run P w = .ok (.agg (FR k n f)) w :=
  results_cell_row h tmps w g t (FR k n f) (0, 0) d hp hr hu hd (by rw [FR_size]; exact hi)
theorem w64 (n : Int) (h : -9223372036854775808 ≤ n ∧ n ≤ 9223372036854775807) : wrap64 n = n := by unfold wrap64; omega
theorem meas_up (n : Nat) (i : Nat) (h : i < n) : n - (intOf (Value.int IntKind.i64 ((i : Int) + 1))).toNat < n - (intOf (Value.int IntKind.i64 (i : Int))).toNat := by
  have e1 : intOf (Value.int IntKind.i64 ((i : Int) + 1)) = (i : Int) + 1 := rfl
  have e2 : intOf (Value.int IntKind.i64 (i : Int)) = (i : Int) := rfl
  rw [e1, e2]; omega
def sB (s : ByteArray) (i : Nat) : Int := ((s[i]?.getD 0).toNat : Int)
theorem sB_b (s : ByteArray) (i : Nat) : 0 ≤ sB s i ∧ sB s i < 256 := by
  unfold sB
  have := (s[i]?.getD 0).toNat_lt
  omega
theorem sB_at (s : ByteArray) (i : Nat) (h : i < s.size) : ∃ c : UInt8, (∀ h : i < s.size, s[i]'h = c) ∧ (c.toNat : Int) = sB s i := by
  have e : s[i]? = some s[i] := getElem?_pos s i h
  exact ⟨s[i], fun _ => rfl, by unfold sB; rw [e]; rfl⟩
theorem i64w (x : Int) (h : -9223372036854775808 ≤ x ∧ x ≤ 9223372036854775807) : IntKind.i64.wrap x = x := by
  have e : IntKind.i64.wrap x = if x % 18446744073709551616 ≥ 9223372036854775808 then x % 18446744073709551616 - 18446744073709551616 else x % 18446744073709551616 := by
    unfold IntKind.wrap; simp [IntKind.bits, IntKind.signed]
  rw [e]; split <;> omega
theorem row_eq {w : World} {g : Nat} {k : IntKind} {n : Nat} {f f' : Nat → Int} {t : TypeId} (h : Row w g k n f t) (e : ∀ i, i < n → f i = f' i) : Row w g k n f' t := by
  unfold Row; rw [← FR_congr k n f f' e]; exact h
theorem part_step {w : World} {g : Nat} {k : IntKind} {n : Nat} {t : TypeId} {F G : Nat → Int} {i : Nat} {a : Addr} (h : Row w g k n (fun j => if j < i then F j else G j) t) (hi : i < n) :
    Row (w.setCell ⟨g, i, none⟩ (.int k (F i))) g k n (fun j => if j < i + 1 then F j else G j) t :=
  row_eq (h.set i (F i) hi) (fun j hj => by
    unfold upd
    by_cases hji : j = i
    · subst hji; rw [if_pos rfl, if_pos (by omega)]
    · rw [if_neg hji]
      show (if j < i then F j else G j) = _
      by_cases hjl : j < i
      · rw [if_pos hjl, if_pos (by omega)]
      · rw [if_neg hjl, if_neg (by omega)])
theorem toNat2 (i : Nat) : (2 * (i : Int)).toNat = 2 * i := by omega
theorem toNat21 (i : Nat) : (2 * (i : Int) + 1).toNat = 2 * i + 1 := by omega
def val (B : Int) (f : Nat → Int) : Nat → Int
  | 0 => 0
  | n + 1 => val B f n + f n * B ^ n
def dig (B N : Int) (i : Nat) : Int := N / B ^ i % B
theorem val_congr (B : Int) (f g : Nat → Int) : ∀ n, (∀ i, i < n → f i = g i) → val B f n = val B g n
  | 0, _ => rfl
  | n + 1, h => by rw [val, val, val_congr B f g n (fun i hi => h i (by omega)), h n (by omega)]
theorem val_add (B : Int) (f g : Nat → Int) : ∀ n, val B (fun i => f i + g i) n = val B f n + val B g n
  | 0 => rfl
  | n + 1 => by
    have := val_add B f g n
    simp only [val, this]; grind
theorem val_sub (B : Int) (f g : Nat → Int) : ∀ n, val B (fun i => f i - g i) n = val B f n - val B g n
  | 0 => rfl
  | n + 1 => by
    have := val_sub B f g n
    simp only [val, this]; grind
theorem pow_pos' (B : Int) (hB : 0 < B) (n : Nat) : 0 < B ^ n := Int.pow_pos hB
theorem val_b (B : Int) (hB : 0 < B) (f : Nat → Int) : ∀ n, (∀ i, i < n → 0 ≤ f i ∧ f i < B) → 0 ≤ val B f n ∧ val B f n < B ^ n
  | 0, _ => by simp [val]
  | n + 1, h => by
    have h1 := val_b B hB f n (fun i hi => h i (by omega))
    have h2 := h n (by omega)
    have h3 := pow_pos' B hB n
    have h4 : 0 ≤ f n * B ^ n := Int.mul_nonneg h2.1 (by omega)
    have h5 : (f n + 1) * B ^ n ≤ B * B ^ n := Int.mul_le_mul_of_nonneg_right (by omega) (by omega)
    rw [val, Int.pow_succ]
    have h6 : (f n + 1) * B ^ n = f n * B ^ n + B ^ n := by grind
    have h7 : B ^ n * B = B * B ^ n := by grind
    omega
def cy (B : Int) (f : Nat → Int) : Nat → Int
  | 0 => 0
  | i + 1 => (f i + cy B f i) / B
theorem cy_val (B : Int) (hB : 0 < B) (f : Nat → Int) : ∀ n, val B (fun i => (f i + cy B f i) % B) n + cy B f n * B ^ n = val B f n
  | 0 => by simp [val, cy]
  | n + 1 => by
    have h1 := cy_val B hB f n
    have h2 := Int.emod_add_mul_ediv (f n + cy B f n) B
    have e : cy B f (n + 1) = (f n + cy B f n) / B := rfl
    rw [val, e, Int.pow_succ]
    show val B (fun i => (f i + cy B f i) % B) n + (f n + cy B f n) % B * B ^ n + (f n + cy B f n) / B * (B ^ n * B) = val B f n + f n * B ^ n
    grind
theorem cy_div (B : Int) (hB : 0 < B) (f : Nat → Int) (n : Nat) : cy B f n = val B f n / B ^ n ∧ val B (fun i => (f i + cy B f i) % B) n = val B f n % B ^ n := by
  have h1 := cy_val B hB f n
  have h2 := val_b B hB (fun i => (f i + cy B f i) % B) n (fun i _ => ⟨Int.emod_nonneg _ (by omega), Int.emod_lt_of_pos _ hB⟩)
  have h3 := pow_pos' B hB n
  have e : val B f n = val B (fun i => (f i + cy B f i) % B) n + B ^ n * cy B f n := by rw [← h1]; grind
  rw [e]
  constructor
  · rw [Int.add_mul_ediv_left _ _ (by omega), Int.ediv_eq_zero_of_lt h2.1 h2.2, Int.zero_add]
  · rw [Int.add_mul_emod_self_left, Int.emod_eq_of_lt h2.1 h2.2]
theorem val_dig (B : Int) (hB : 0 < B) (N : Int) : ∀ n, val B (dig B N) n = N % B ^ n
  | 0 => by simp [val, Int.emod_one]
  | n + 1 => by
    rw [val, val_dig B hB N n, Int.pow_succ]
    have h1 := Int.emod_add_mul_ediv N (B ^ n)
    have h2 := Int.emod_add_mul_ediv (N / B ^ n) B
    have h3 := pow_pos' B hB n
    have b1 := Int.emod_nonneg N (show B ^ n ≠ 0 by omega)
    have b2 := Int.emod_lt_of_pos N h3
    have b3 := Int.emod_nonneg (N / B ^ n) (show B ≠ 0 by omega)
    have b4 := Int.emod_lt_of_pos (N / B ^ n) hB
    unfold dig
    have e : N = (N % B ^ n + N / B ^ n % B * B ^ n) + (B ^ n * B) * (N / B ^ n / B) := by grind
    have b5 : 0 ≤ N / B ^ n % B * B ^ n := Int.mul_nonneg b3 (by omega)
    have b6 : (N / B ^ n % B + 1) * B ^ n ≤ B * B ^ n := Int.mul_le_mul_of_nonneg_right (by omega) (by omega)
    have b7 : (N / B ^ n % B + 1) * B ^ n = N / B ^ n % B * B ^ n + B ^ n := by grind
    have b8 : B ^ n * B = B * B ^ n := by grind
    have e2 : N % (B ^ n * B) = (N % B ^ n + N / B ^ n % B * B ^ n) := by
      conv => lhs; rw [e]
      rw [Int.add_mul_emod_self_left, Int.emod_eq_of_lt (by omega) (by omega)]
    rw [e2]
theorem dig_b (B : Int) (hB : 0 < B) (N : Int) (i : Nat) : 0 ≤ dig B N i ∧ dig B N i < B := ⟨Int.emod_nonneg _ (by omega), Int.emod_lt_of_pos _ hB⟩
theorem dig_val (B : Int) (hB : 0 < B) (f : Nat → Int) : ∀ n, (∀ i, i < n → 0 ≤ f i ∧ f i < B) → ∀ i, i < n → f i = dig B (val B f n) i
  | 0, _ => fun i hi => absurd hi (by omega)
  | n + 1, h => fun i hi => by
    have h1 := val_b B hB f n (fun i hi => h i (by omega))
    have h2 := h n (by omega)
    have h3 := pow_pos' B hB n
    by_cases hin : i = n
    · subst hin
      unfold dig
      rw [val, Int.add_mul_ediv_right _ _ (by omega), Int.ediv_eq_zero_of_lt h1.1 h1.2, Int.zero_add, Int.emod_eq_of_lt h2.1 h2.2]
    · have ih := dig_val B hB f n (fun i hi => h i (by omega)) i (by omega)
      rw [ih]
      unfold dig
      obtain ⟨k, rfl⟩ : ∃ k, n = i + 1 + k := ⟨n - (i + 1), by omega⟩
      have hp := pow_pos' B hB i
      have e : f (i + 1 + k) * B ^ (i + 1 + k) = (f (i + 1 + k) * B ^ k * B) * B ^ i := by
        rw [Int.pow_add, Int.pow_add]; grind
      rw [val, e, Int.add_mul_ediv_right _ _ (by omega), Int.add_mul_emod_self_right]
theorem run_part_FR {P : Program} (e : TypeId) {k : IntKind} (he : P.underlying e = some (.int k)) {n : Nat} (f : Nat → Int) (i : Nat) (hi : i < n) (w : World) : (part e (FR k n f) i).run P w = .ok (.int k (f i)) w := by
  have ha : (isAgg e).run P w = .ok false w := by simp [isAgg, run_underlying he]
  simp only [part, Sem.run_bind, ha, Result.andThen_ok, FR_at _ _ _ _ hi]
  rfl
theorem run_eq_int {P : Program} (e : TypeId) {k : IntKind} (he : P.underlying e = some (.int k)) (d : Nat) (a b : Int) (w : World) : (Op.equalIn (d + 1) e (.int k a) (.int k b)).run P w = .ok (a == b) w := by
  simp only [Op.equalIn, Sem.run_bind, run_underlying he, Result.andThen_ok]
  simp
theorem run_eqItems_FR {P : Program} (e : TypeId) {k : IntKind} (he : P.underlying e = some (.int k)) {n : Nat} (f g : Nat → Int) (d : Nat) (w : World) : ∀ is : List Nat, (∀ i ∈ is, i < n) →
    (Op.eqItems (d + 1) e 1 (FR k n f) (FR k n g) is).run P w = .ok (is.all fun i => f i == g i) w
  | [], _ => by simp [Op.eqItems]
  | i :: is, h => by
    have ih := run_eqItems_FR e he f g d w is (fun j hj => h j (by simp [hj]))
    have hi := h i (by simp)
    have p1 := run_part_FR (P := P) e he f i hi w
    have p2 := run_part_FR (P := P) e he g i hi w
    have p3 := run_eq_int (P := P) e he d (f i) (g i) w
    simp only [Op.eqItems, Nat.mul_one, Sem.run_bind, p1, p2, p3, Result.andThen_ok]
    cases hb : (f i == g i)
    · simp [hb]
    · simp [hb, ih]
def sameRow (n : Nat) (f g : Nat → Int) : Bool := decide (∀ i, i < n → f i = g i)
theorem sameRow_iff (n : Nat) (f g : Nat → Int) : sameRow n f g = true ↔ ∀ i, i < n → f i = g i := by unfold sameRow; simp
theorem run_equal_FR {P : Program} {t e : TypeId} {k : IntKind} {n : Nat} (ht : P.underlying t = some (.array n e)) (he : P.underlying e = some (.int k)) (hc : (P.info? e).map (·.size) = some 1) (f g : Nat → Int) (w : World) :
    (Op.equal t (.agg (FR k n f)) (.agg (FR k n g))).run P w = .ok (sameRow n f g) w := by
  obtain ⟨ie, hie, hs⟩ : ∃ ie, P.info? e = some ie ∧ ie.size = 1 := by
    cases h : P.info? e with
    | none => rw [h] at hc; cases hc
    | some ie => rw [h] at hc; exact ⟨ie, rfl, Option.some.inj hc⟩
  have hcell : P.cellsOf e = 1 := by simp [Program.cellsOf, hie, hs]
  have h := run_equalIn_array (P := P) w 9999 (FR k n f) (FR k n g) ht hie
  rw [hcell, run_eqItems_FR (P := P) e he f g 9998 w (List.range n) (fun i hi => List.mem_range.1 hi)] at h
  rw [show Op.equal t (.agg (FR k n f)) (.agg (FR k n g)) = Op.equalIn (9999 + 1) t (.agg (FR k n f)) (.agg (FR k n g)) from rfl, h]
  congr 1
  rw [Bool.eq_iff_iff, sameRow_iff]
  simp
theorem run_index_FR {P : Program} {t e : TypeId} {k : IntKind} {n : Nat} (ht : P.underlying t = some (.array n e)) (he : P.underlying e = some (.int k)) (hc : (P.info? e).map (·.size) = some 1) (f : Nat → Int) (i : Nat) (hi : i < n) (w : World) :
    (Instr.index t (.agg (FR k n f)) (.int .i64 (i : Int))).run P w = .ok (.int k (f i)) w := by
  obtain ⟨ie, hie, hs⟩ : ∃ ie, P.info? e = some ie ∧ ie.size = 1 := by
    cases h : P.info? e with
    | none => rw [h] at hc; cases hc
    | some ie => rw [h] at hc; exact ⟨ie, rfl, Option.some.inj hc⟩
  have h1 : (asIntOf (.int .i64 (i : Int))).run P w = .ok (IntKind.i64, (i : Int)) w := by simp [asIntOf]
  have h2 := run_part_FR (P := P) e he f i hi w
  have hin : 0 ≤ (i : Int) ∧ (i : Int) < (n : Int) := by omega
  have h3 : (typeInfo e).run P w = .ok ie w := by simp [typeInfo, hie]
  simp only [Instr.index, Sem.run_bind, h1, Result.andThen_ok, run_underlying ht, if_pos hin, sizeOf, h3, hs, Sem.run_pure, Int.toNat_natCast, Nat.mul_one, h2]
theorem digs_same (B : Int) (hB : 0 < B) (n : Nat) (x y : Int) (hx : 0 ≤ x ∧ x < B ^ n) (hy : 0 ≤ y ∧ y < B ^ n) : (∀ i, i < n → dig B x i = dig B y i) ↔ x = y := by
  constructor
  · intro h
    have h1 := val_dig B hB x n
    have h2 := val_dig B hB y n
    rw [val_congr B _ _ n h] at h1
    rw [Int.emod_eq_of_lt hx.1 hx.2] at h1
    rw [Int.emod_eq_of_lt hy.1 hy.2] at h2
    rw [← h1, h2]
  · rintro rfl i _; rfl
theorem sameRow_dig (B : Int) (hB : 0 < B) (n : Nat) (x y : Int) (hx : 0 ≤ x ∧ x < B ^ n) (hy : 0 ≤ y ∧ y < B ^ n) : sameRow n (dig B x) (dig B y) = decide (x = y) := by
  rw [Bool.eq_iff_iff, sameRow_iff, digs_same B hB n x y hx hy]; simp
theorem and1 (x : Int) (h0 : 0 ≤ x) (h1 : x < 18446744073709551616) : Go.bits .and .u64 x 1 = x % 2 := by
  rw [u64_and _ _ h0 h1 (by omega) (by omega), show (1 : Int).toNat = 2 ^ 1 - 1 from rfl, Nat.and_two_pow_sub_one_eq_mod]
  omega
theorem or_bit (x b : Int) (r : Nat) (hr : r < 8) (hx : 0 ≤ x ∧ x < 2 ^ r) (hb : b = 0 ∨ b = 1) : Go.bits .or .u8 x (b % 256 * 2 ^ r % 256) = x + b * 2 ^ r := by
  have hp : (0 : Int) < 2 ^ r := Int.pow_pos (by omega)
  have h8 : (2 : Int) ^ r ≤ 128 := by
    have hc : r = 0 ∨ r = 1 ∨ r = 2 ∨ r = 3 ∨ r = 4 ∨ r = 5 ∨ r = 6 ∨ r = 7 := by omega
    rcases hc with h | h | h | h | h | h | h | h <;> subst h <;> decide
  have hv : b % 256 * 2 ^ r % 256 = b * 2 ^ r := by
    rcases hb with h | h
    · subst h; simp
    · subst h; rw [Int.emod_eq_of_lt (show (0 : Int) ≤ 1 % 256 * 2 ^ r by omega) (by omega)]; rfl
  rw [hv]
  have hb2 : 0 ≤ b * 2 ^ r ∧ b * 2 ^ r ≤ 128 := by rcases hb with h | h <;> subst h <;> omega
  rw [u8_or _ _ hx.1 (by omega) hb2.1 (by omega)]
  have e : (b * 2 ^ r).toNat = 2 ^ r * b.toNat := by
    rcases hb with h | h
    · subst h; simp
    · subst h; rw [Int.one_mul, Int.toNat_pow_of_nonneg (by omega)]; simp
  have hxn : x.toNat < 2 ^ r := by
    have : ((2 ^ r : Nat) : Int) = 2 ^ r := by simp
    omega
  rw [e, Nat.or_comm, ← Nat.two_pow_add_eq_or_of_lt hxn]
  rcases hb with h | h
  · subst h; simp; omega
  · subst h
    have : ((2 ^ r : Nat) : Int) = 2 ^ r := by simp
    simp; omega
theorem pow256 (j : Nat) : (256 : Int) ^ j = 2 ^ (8 * j) := by
  rw [Int.pow_mul]; rfl
def smL (n : Int) (i : Nat) : Int := if i = 0 then n else 0
theorem exec_load {P : Program} {o : Oper} {ev : Operand → Value} {w : World} {ty : TypeId} {x : Operand} {g : Nat} {k : IntKind} {n : Nat} {f : Nat → Int} {t : TypeId} {d : TypeDesc} (hr : Row w g k n f t)
    (hu : P.underlying ty = some d) (hi : (P.info? ty).map (·.size) = some n) (hd : (match d with | .struct _ | .array _ _ => true | _ => false) = true) (ho : o.op = .load ty x) (hx : ev x = .pointer (some ⟨g, 0, none⟩)) : (execOp ev o).run P w = .ok (.value (.agg (FR k n f))) w := by
  unfold execOp
  simp only [ho, hx, Instr.loadAt, Instr.sureAddr, Sem.run_bind, Sem.run_pure, Result.andThen_ok, run_loadVar_row w g t ty _ _ d hr hu hd (by rw [FR_size]; exact hi)]
def sOf (f : Nat → Int) : ByteArray := strOfNums ((List.range 32).map f)
theorem sOf_inj (f g : Nat → Int) (hf : ∀ i, 0 ≤ f i ∧ f i < 256) (hg : ∀ i, 0 ≤ g i ∧ g i < 256) : sOf f = sOf g ↔ ∀ i, i < 32 → f i = g i := by
  constructor
  · intro h i hi
    have h1 : (((List.range 32).map f).map fun n => UInt8.ofNat n.toNat) = (((List.range 32).map g).map fun n => UInt8.ofNat n.toNat) := by
      have := congrArg (fun b : ByteArray => b.data.toList) h
      simpa [sOf, strOfNums] using this
    have h2 := congrArg (fun l => l[i]?) h1
    simp only [List.getElem?_map, List.getElem?_range hi, Option.map_some, Option.some.injEq] at h2
    have h3 := congrArg UInt8.toNat h2
    have b1 := hf i
    have b2 := hg i
    rw [UInt8.toNat_ofNat', UInt8.toNat_ofNat', Nat.mod_eq_of_lt (by omega), Nat.mod_eq_of_lt (by omega)] at h3
    omega
  · intro h
    unfold sOf
    congr 1
    apply List.map_congr_left
    intro i hi
    exact h i (List.mem_range.1 hi)
theorem beq_bytes (a b : ByteArray) : (a == b) = true ↔ a = b := by
  have e : (a == b) = (a.data == b.data) := rfl
  rw [e, beq_iff_eq]
  constructor
  · intro h; cases a; cases b; simp at h; rw [h]
  · rintro rfl; rfl
theorem sOf_same (N M : Int) (hN : 0 ≤ N ∧ N < 256 ^ 32) (hM : 0 ≤ M ∧ M < 256 ^ 32) : (sOf (dig 256 N) == sOf (dig 256 M)) = decide (N = M) := by
  rw [Bool.eq_iff_iff]
  rw [decide_eq_true_eq, beq_bytes, sOf_inj _ _ (dig_b 256 (by omega) N) (dig_b 256 (by omega) M), digs_same 256 (by omega) 32 N M hN hM]
theorem sOf_sameL (N M : Int) (hN : 0 ≤ N ∧ N < 256 ^ 32) (hM : 0 ≤ M ∧ M < 256 ^ 32) : ((sOf (dig 256 N)).toList == (sOf (dig 256 M)).toList) = decide (N = M) := by
  rw [← beq_toListBytes]; exact sOf_same N M hN hM
theorem sB_sOf (f : Nat → Int) (hf : ∀ i, i < 32 → 0 ≤ f i ∧ f i < 256) (i : Nat) (hi : i < 32) : sB (sOf f) i = f i := by
  have hs : (sOf f).size = 32 := by simp [sOf, strOfNums, ByteArray.size]
  obtain ⟨c, h1, h2⟩ := sB_at (sOf f) i (by omega)
  rw [← h2, ← h1 (by omega)]
  have h3 := hf i hi
  show (((sOf f).data[i]).toNat : Int) = f i
  simp [sOf, strOfNums]
  omega
theorem sOf_size (f : Nat → Int) : (sOf f).size = 32 := by simp [sOf, strOfNums, ByteArray.size]
theorem val_split (B : Int) (f : Nat → Int) (a : Nat) : ∀ n, val B f (a + n) = val B f a + B ^ a * val B (fun j => f (a + j)) n
  | 0 => by simp [val]
  | n + 1 => by
    have ih := val_split B f a n
    show val B f (a + n) + f (a + n) * B ^ (a + n) = val B f a + B ^ a * (val B (fun j => f (a + j)) n + f (a + n) * B ^ n)
    rw [ih, Int.pow_add]; grind
theorem val_nonneg (B : Int) (hB : 0 < B) (f : Nat → Int) : ∀ n, (∀ i, i < n → 0 ≤ f i) → 0 ≤ val B f n
  | 0, _ => by simp [val]
  | n + 1, h => by
    have h1 := val_nonneg B hB f n (fun i hi => h i (by omega))
    have h2 : 0 ≤ f n * B ^ n := Int.mul_nonneg (h n (by omega)) (Int.le_of_lt (pow_pos' B hB n))
    rw [val]; omega
theorem oper_storeG {P : Program} {o : Oper} {ops : Array Oper} {a : Act} {w : World} {K : Act → World → Prop} {Q : Exit → Act → World → Prop} {k : IntKind} {n : Nat} {f : Nat → Int} {t ty : TypeId} {x y : Operand} {g : Nat}
    (f' : Nat → Int) (hr : Row w g k n f t) (hi : (P.info? ty).map (·.size) = some n) (hw : Region.wanted o (yielded ops a.tmps) = true) (hdst : o.dst = none) (ho : o.op = .store ty x y) (hx : a.eval x = .pointer (some ⟨g, 0, none⟩)) (hy : a.eval y = .agg (FR k n f'))
    (h : ∀ w', Stored w w' g → Row w' g k n f' t → K a w') : if Region.wanted o (yielded ops a.tmps) = true then Oper.wp P o a w K Q else K (a.put none undef) w := by
  rw [if_pos hw]
  obtain ⟨ie, hie, hs⟩ : ∃ ie, P.info? ty = some ie ∧ ie.size = n := by
    cases he : P.info? ty with
    | none => rw [he] at hi; cases hi
    | some ie => rw [he] at hi; exact ⟨ie, rfl, Option.some.inj hi⟩
  unfold Oper.wp execOp
  simp only [ho, hx, hy, Instr.storeAt, Instr.sureAddr, Sem.run_bind, Sem.run_pure, Result.andThen_ok, run_storeVar_row ty ie hie g t (FR k n f) (FR k n f') w hr (by rw [FR_size, FR_size]) (by rw [FR_size, hs]) (FR_one k n f')]
  have := h _ ⟨fun k hk => setCells_other hk _ _ _, setCells_size g _ _ _, fun B W hB hb => yG hB _ _ _ hb⟩ (Row.all hr)
  show K (a.put o.dst undef) _
  rw [hdst]
  exact this
theorem val_upd (B : Int) (f : Nat → Int) (j : Nat) (x : Int) : ∀ n, j < n → val B (upd f j (f j + x)) n = val B f n + x * B ^ j
  | 0, h => absurd h (by omega)
  | n + 1, h => by
    rw [val, val]
    by_cases hj : j = n
    · subst hj
      rw [upd_same, val_congr B (upd f j (f j + x)) f j (fun i hi => upd_other _ _ _ _ (by omega))]
      grind
    · rw [val_upd B f j x n (by omega), upd_other _ _ _ _ (fun e => hj e.symm)]
      omega
theorem u8b {x : Int} (h : (Lit.int .u8 x).wf = true) : 0 ≤ x ∧ x < 256 := by
  have e1 : IntKind.u8.min = 0 := by decide
  have e2 : IntKind.u8.max = 255 := by decide
  simp [Lit.wf] at h; omega
theorem and32 (x : Nat) (h : x < 18446744073709551616) : Go.bits .and .u64 (x : Int) 4294967295 = ((x % 4294967296 : Nat) : Int) := by
  rw [u64_and _ _ (by omega) (by omega) (by omega) (by omega), show (4294967295 : Int).toNat = 2 ^ 32 - 1 from rfl, Nat.and_two_pow_sub_one_eq_mod]
  rfl
theorem val_succ (B : Int) (f : Nat → Int) (n : Nat) : val B f (n + 1) = val B f n + f n * B ^ n := rfl
theorem u64wm (z : Int) : IntKind.u64.wrap z = z % 18446744073709551616 := rfl
theorem bel_four (w : World) (a b c d : Obj) : Below w.heap.size w ((((w.alloc a).alloc b).alloc c).alloc d) := (bel_three w a b c).alloc (bel_three w a b c).size d
theorem four_new (w : World) (a b c d : Obj) : ((((w.alloc a).alloc b).alloc c).alloc d).heap[w.heap.size + 1 + 1 + 1]? = some d := by
  have h := heap_alloc_new (((w.alloc a).alloc b).alloc c) d
  have e : (((w.alloc a).alloc b).alloc c).heap.size = w.heap.size + 1 + 1 + 1 := by simp
  rwa [e] at h
section
variable {H : Type} {enc : TypeId × Value → H} {P : Program} {t e : TypeId} {n : Nat} {q : IntKind} {W : World} {base : Nat} {sp : Nat → Bool} {held : Bool}
def cellInt (cs : List Value) (i : Nat) : Int := match cs[i]? with
  | some v => intOf v
  | none => 0
theorem drop_take_one {cs : List Value} {i : Nat} {v : Value} (h : (cs.drop i).take 1 = [v]) : cs[i]? = some v := by
  have h2 := congrArg (fun l => l[0]?) h
  simpa [List.getElem?_take, List.getElem?_drop] using h2
theorem take_drop_one {cs : List Value} {i : Nat} {v : Value} (h : cs[i]? = some v) : (cs.drop i).take 1 = [v] := by
  obtain ⟨hi, hv⟩ := List.getElem?_eq_some_iff.1 h
  rw [List.drop_eq_getElem_cons hi, hv]; rfl
theorem mapM_open (he : P.underlying e = some (.int q)) {m : Nat} {cs : List Value} : ∀ (L : List Nat) (xs : List (DataW H × List MemPlace)),
    L.mapM (fun i => DataW.trod enc P W base sp held m e ((cs.drop (i * 1)).take 1)) = some xs →
    xs = L.map (fun i => (.lit (.int q (cellInt cs i)), [])) ∧ ∀ i ∈ L, cs[i]? = some (.int q (cellInt cs i)) ∧ (Lit.int q (cellInt cs i)).wf = true
  | [], xs, h => by
    simp at h
    subst h
    exact ⟨rfl, by simp⟩
  | i :: L, xs, h => by
    rw [List.mapM_cons] at h
    simp only [bind, Option.bind_eq_some_iff, pure, Option.some.injEq] at h
    obtain ⟨y, hy, ys, hys, rfl⟩ := h
    obtain ⟨rfl, hl⟩ := mapM_open he L ys hys
    obtain ⟨a, ea, rfl, wa⟩ := DataW.trod_int he hy
    rw [Nat.mul_one] at ea
    have hc := drop_take_one ea
    have hi : cellInt cs i = a := by unfold cellInt; rw [hc]; rfl
    rw [← hi] at hc wa ⊢
    refine ⟨rfl, fun j hj => ?_⟩
    rcases List.mem_cons.1 hj with rfl | hj
    · exact ⟨hc, wa⟩
    · exact hl j hj
theorem mapM_shut (he : P.underlying e = some (.int q)) {m : Nat} {cs : List Value} (f : Nat → Int) : ∀ (L : List Nat), (∀ i ∈ L, cs[i]? = some (.int q (f i)) ∧ (Lit.int q (f i)).wf = true) →
    L.mapM (fun i => DataW.trod enc P W base sp held (m + 1) e ((cs.drop (i * 1)).take 1)) = some (L.map (fun i => (.lit (.int q (f i)), [])))
  | [], _ => by simp
  | i :: L, h => by
    have ih := mapM_shut he (m := m) f L (fun j hj => h j (by simp [hj]))
    have hi := h i (by simp)
    have e1 := take_drop_one hi.1
    have h1 : DataW.trod enc P W base sp held (m + 1) e [.int q (f i)] = some (.lit (.int q (f i)), []) := by
      rw [DataW.trod_step]
      unfold DataW.trodStep
      simp [he, hi.2]
    rw [List.mapM_cons, ih, Nat.mul_one, e1, h1]
    rfl
theorem open_array (ht : P.underlying t = some (.array n e)) (he : P.underlying e = some (.int q)) (hce : P.cellsOf e = 1) (hct : P.cellsOf t = n) {r : Reach} {b0 : Nat} {v : Value} (hval : Value.okWide P W r b0 t v) {d : DataW H} {ps : List MemPlace} (hd : DataW.Trod enc P W base sp held t v d ps) :
    ∃ f : Nat → Int, v = .agg (FR q n f) ∧ d = .agg ((List.range n).map fun i => .lit (.int q (f i))) ∧ ps = [] ∧ ∀ i, i < n → (Lit.int q (f i)).wf = true := by
  obtain ⟨cs, rfl⟩ : ∃ cs : Array Value, v = .agg cs := by
    simp only [Value.okWide, ht] at hval
    obtain ⟨cs, h1, _⟩ := hval
    exact ⟨cs, h1⟩
  obtain ⟨fuel, hf⟩ := hd
  cases fuel with
  | zero => simp [DataW.trod] at hf
  | succ m =>
    rw [DataW.trod_step] at hf
    unfold DataW.trodStep at hf
    simp only [ht, Value.cells, hce] at hf
    split at hf
    · rename_i hn
      simp only [Option.map_eq_some_iff] at hf
      obtain ⟨ys, hy, e1⟩ := hf
      obtain ⟨rfl, hl⟩ := mapM_open he _ ys hy
      simp only [Prod.mk.injEq] at e1
      have hsz : cs.size = n := by rw [← hct]; simpa using hn
      refine ⟨cellInt cs.toList, ?_, ?_, ?_, fun i hi => (hl i (List.mem_range.2 hi)).2⟩
      · congr 1
        apply Array.ext_getElem?
        intro i
        by_cases hi : i < n
        · have h2 := (hl i (List.mem_range.2 hi)).1
          rw [FR_at _ _ _ _ hi, ← h2]
          simp
        · rw [FR_out _ _ _ _ hi]
          exact Array.getElem?_eq_none (by omega)
      · rw [← e1.1]; simp [Function.comp_def]
      · rw [← e1.2]; simp [List.flatMap_eq_nil_iff]
    · cases hf
theorem shut_array (ht : P.underlying t = some (.array n e)) (he : P.underlying e = some (.int q)) (hce : P.cellsOf e = 1) (hct : P.cellsOf t = n) (f : Nat → Int) (hw : ∀ i, i < n → (Lit.int q (f i)).wf = true) :
    DataW.Trod enc P W base sp held t (.agg (FR q n f)) (.agg ((List.range n).map fun i => .lit (.int q (f i)))) [] := by
  refine ⟨0 + 1 + 1, ?_⟩
  rw [DataW.trod_step]
  unfold DataW.trodStep
  simp only [ht, Value.cells, hce]
  rw [if_pos (by rw [Array.length_toList, FR_size, hct])]
  rw [mapM_shut (enc := enc) (W := W) (base := base) (sp := sp) (held := held) he f (List.range n) (fun i hi => ⟨by rw [Array.getElem?_toList, FR_at _ _ _ _ (List.mem_range.1 hi)], hw i (List.mem_range.1 hi)⟩)]
  simp [Function.comp_def, List.flatMap_eq_nil_iff]
end
section
variable {P : Program} {ops : Array Oper} {Q : Exit → Act → World → Prop} {md : Region.Mode} {S : World → Prop} {ds : List Nat}
theorem step_load_at {P : Program} {ops : Array Oper} {rest : List Oper} {o : Oper} {a : Act} {w : World} {Q : Exit → Act → World → Prop} {k : IntKind} {n : Nat} {f : Nat → Int} {ty : TypeId} {x : Operand} {ad : Addr} {d : TypeDesc}
    (hr : ∀ j, j < n → w.cell? (ad.add j) = some (.int k (f j))) (hu : P.underlying ty = some d) (hi : (P.info? ty).map (·.size) = some n) (hd : (match d with | .struct _ | .array _ _ => true | _ => false) = true) (hgd : o.guard = none) (ho : o.op = .load ty x) (hx : a.eval x = .pointer (some ad))
    (h : wpList P ops Q rest (a.put o.dst (.agg (FR k n f))) w) : wpList P ops Q (o :: rest) a w := by
  obtain ⟨ie, hie, hs⟩ : ∃ ie, P.info? ty = some ie ∧ ie.size = n := by
    cases he : P.info? ty with
    | none => rw [he] at hi; cases hi
    | some ie => rw [he] at hi; exact ⟨ie, rfl, Option.some.inj hi⟩
  have hti : (typeInfo ty).run P w = .ok ie w := by simp [typeInfo, hie]
  have ha : (isAgg ty).run P w = .ok true w := by
    simp only [isAgg, Sem.run_bind, run_underlying hu, Result.andThen_ok]
    cases d <;> simp_all
  have hl : (loadCells ad n).run P w = .ok (FR k n f) w := by
    have := run_loadCells_list (P := P) w ad (FR k n f).toList (fun j v hv => by
      rw [Array.getElem?_toList] at hv
      by_cases hj : j < n
      · rw [FR_at _ _ _ _ hj] at hv; rw [hr j hj]; exact hv
      · rw [FR_out _ _ _ _ hj] at hv; cases hv)
    rw [Array.length_toList, FR_size] at this
    simpa using this
  refine wpList_plain hgd fun K hK => ?_
  unfold Oper.wp execOp
  simp only [ho, hx, Instr.loadAt, Instr.sureAddr, Sem.run_bind, Sem.run_pure, Result.andThen_ok, loadVar, ha, sizeOf, hti, hs, hl, if_true]
  exact hK _ _ h
end
end Go.Proofs.YtbmnkchcekacfaaDoor.P
end

section
namespace Go.Proofs.YtbmnkchcekacfaaDoor.P.Fd
set_option linter.unusedVariables false
set_option linter.unusedSimpArgs false
open Go.RowKit Go.ChangeShapes Go.WideShapes Go.Proofs.YtbmnkchcekacfaaDoorW.PrintWords Go.Proofs.YtbmnkchcekacfaaDoorW.PrintLast Go.Proofs.YtbmnkchcekacfaaDoorW.PrintMore
attribute [local go_sem] setCell_drewN
def E5 (x0 x1 x2 x3 x4 : Int) : Value := .agg #[.int .u64 x0, .int .u64 x1, .int .u64 x2, .int .u64 x3, .int .u64 x4]
theorem mask51 (x : Int) (h0 : 0 ≤ x) (h1 : x < 18446744073709551616) : Go.bits .and .u64 x 2251799813685247 = x % 2251799813685248 := by
  rw [u64_and _ _ h0 h1 (by omega) (by omega), show (2251799813685247 : Int).toNat = 2 ^ 51 - 1 from rfl, Nat.and_two_pow_sub_one_eq_mod]
  omega
def cfrom : Nat → Int → Int → Int → Int → Int → Int × Int × Int × Int × Int
  | 0, y0, y1, y2, y3, y4 => cfrom3 (y0 % 2251799813685248) (y1 + y0 / 2251799813685248) y2 y3 y4
  | 1, y0, y1, y2, y3, y4 => cfrom2 y0 y1 y2 y3 y4
  | 2, y0, y1, y2, y3, y4 => cfrom1 y0 y1 y2 y3 y4
  | 3, y0, y1, y2, y3, y4 => (y0, y1, y2, y3 % 2251799813685248, y4 + y3 / 2251799813685248)
  | _, y0, y1, y2, y3, y4 => (y0, y1, y2, y3, y4)
where
  cfrom1 (y0 y1 y2 y3 y4 : Int) : Int × Int × Int × Int × Int := (y0, y1, y2 % 2251799813685248, (y3 + y2 / 2251799813685248) % 2251799813685248, y4 + (y3 + y2 / 2251799813685248) / 2251799813685248)
  cfrom2 (y0 y1 y2 y3 y4 : Int) : Int × Int × Int × Int × Int := cfrom1 y0 (y1 % 2251799813685248) (y2 + y1 / 2251799813685248) y3 y4
  cfrom3 (y0 y1 y2 y3 y4 : Int) : Int × Int × Int × Int × Int := cfrom2 y0 y1 y2 y3 y4
def carriedZ (x0 x1 x2 x3 x4 : Int) : Int × Int × Int × Int × Int := cfrom 0 (x0 + 19 * (x4 / 2251799813685248)) x1 x2 x3 (x4 % 2251799813685248)
def E5t (t : Int × Int × Int × Int × Int) : Value := E5 t.1 t.2.1 t.2.2.1 t.2.2.2.1 t.2.2.2.2
def inB' (i : Nat) (y0 y1 y2 y3 y4 : Int) : Prop := (0 ≤ y0 ∧ y0 ≤ 9223372036854775808 + 100000) ∧ (0 ≤ y1 ∧ y1 ≤ 9223372036854775808 + 100000 * (if i < 1 then 0 else 1)) ∧ (0 ≤ y2 ∧ y2 ≤ 9223372036854775808 + 100000 * (if i < 2 then 0 else 1)) ∧ (0 ≤ y3 ∧ y3 ≤ 9223372036854775808 + 100000 * (if i < 3 then 0 else 1)) ∧ (0 ≤ y4 ∧ y4 ≤ 9223372036854775808 + 100000 * (if i < 4 then 0 else 1))
def CRel (w : World) (x0 x1 x2 x3 x4 : Int) (v18 : Value) (wr : World) : Prop :=
  ∃ (i m : Nat) (y0 y1 y2 y3 y4 : Int), i ≤ 4 ∧ v18 = .int .i64 (i : Int) ∧ inB' i y0 y1 y2 y3 y4 ∧ carriedZ x0 x1 x2 x3 x4 = cfrom i y0 y1 y2 y3 y4 ∧
    wr = ((w.alloc (.cells #[.int .u64 y0, .int .u64 y1, .int .u64 y2, .int .u64 y3, .int .u64 y4] 38)).alloc (.cells #[.int .u64 0, .int .u64 0, .int .u64 0, .int .u64 0, .int .u64 0] 40)).drewN m
theorem carried_calls (x0 x1 x2 x3 x4 : Int) (w : World) (b0 : 0 ≤ x0 ∧ x0 ≤ 9223372036854775808) (b1 : 0 ≤ x1 ∧ x1 ≤ 9223372036854775808) (b2 : 0 ≤ x2 ∧ x2 ≤ 9223372036854775808) (b3 : 0 ≤ x3 ∧ x3 ≤ 9223372036854775808) (b4 : 0 ≤ x4 ∧ x4 ≤ 9223372036854775808) :
    Calls Tryd.prog 72 #[E5 x0 x1 x2 x3 x4] w fun e w' => e = .returned (E5t (carriedZ x0 x1 x2 x3 x4)) ∧ Below w.heap.size w w' := by
  have m4 := mask51 x4 (by omega) (by omega)
  have w1 := u64w (19 * (x4 / 2251799813685248)) (by omega) (by omega)
  have w2 := u64w (x0 + 19 * (x4 / 2251799813685248)) (by omega) (by omega)
  have HB := Aside0.mk (show inB' 0 (x0 + 19 * (x4 / 2251799813685248)) x1 x2 x3 (x4 % 2251799813685248) from by unfold inB'; omega)
  clear b0 b1 b2 b3 b4
  unfold E5
  go_enter Tryd.func72, Tryd.ntmps72
  go_wp2
  go_loopw [18] (fun v18 wr => CRel w x0 x1 x2 x3 x4 v18 wr) (fun v _ => 4 - (intOf v).toNat)
  case atStart => exact ⟨0, 0, _, _, _, _, _, by omega, rfl, HB.out, rfl, rfl⟩
  case round =>
    obtain ⟨i, m, y0, y1, y2, y3, y4, hi, rfl, hb, hcz, rfl⟩ := hrel
    have HC := Aside0.mk hcz
    have HBB := Aside0.mk hb
    clear hcz hb m4 w1 w2
    have hc : i = 0 ∨ i = 1 ∨ i = 2 ∨ i = 3 ∨ i = 4 := by omega
    rcases hc with rfl | rfl | rfl | rfl | rfl
    · have hb := HBB.out
      unfold inB' at hb
      have a1 := mask51 y0 (by omega) (by omega)
      have a2 := u64w (y1 + y0 / 2251799813685248) (by omega) (by omega)
      have HN := Aside0.mk (show inB' 1 (y0 % 2251799813685248) (y1 + y0 / 2251799813685248) y2 y3 y4 from by unfold inB'; omega)
      clear hb
      go_wp2_with fail
      go_region
      go_wp2_with fail
      exact ⟨⟨1, m + 1, (y0 % 2251799813685248), (y1 + y0 / 2251799813685248), y2, y3, y4, by omega, rfl, HN.out, HC.out, rfl⟩, by decide⟩
    · have hb := HBB.out
      unfold inB' at hb
      have a1 := mask51 y1 (by omega) (by omega)
      have a2 := u64w (y2 + y1 / 2251799813685248) (by omega) (by omega)
      have HN := Aside0.mk (show inB' 2 y0 (y1 % 2251799813685248) (y2 + y1 / 2251799813685248) y3 y4 from by unfold inB'; omega)
      clear hb
      go_wp2_with fail
      go_region
      go_wp2_with fail
      exact ⟨⟨2, m + 1, y0, (y1 % 2251799813685248), (y2 + y1 / 2251799813685248), y3, y4, by omega, rfl, HN.out, HC.out, rfl⟩, by decide⟩
    · have hb := HBB.out
      unfold inB' at hb
      have a1 := mask51 y2 (by omega) (by omega)
      have a2 := u64w (y3 + y2 / 2251799813685248) (by omega) (by omega)
      have HN := Aside0.mk (show inB' 3 y0 y1 (y2 % 2251799813685248) (y3 + y2 / 2251799813685248) y4 from by unfold inB'; omega)
      clear hb
      go_wp2_with fail
      go_region
      go_wp2_with fail
      exact ⟨⟨3, m + 1, y0, y1, (y2 % 2251799813685248), (y3 + y2 / 2251799813685248), y4, by omega, rfl, HN.out, HC.out, rfl⟩, by decide⟩
    · have hb := HBB.out
      unfold inB' at hb
      have a1 := mask51 y3 (by omega) (by omega)
      have a2 := u64w (y4 + y3 / 2251799813685248) (by omega) (by omega)
      have HN := Aside0.mk (show inB' 4 y0 y1 y2 (y3 % 2251799813685248) (y4 + y3 / 2251799813685248) from by unfold inB'; omega)
      clear hb
      go_wp2_with fail
      go_region
      go_wp2_with fail
      exact ⟨⟨4, m + 1, y0, y1, y2, (y3 % 2251799813685248), (y4 + y3 / 2251799813685248), by omega, rfl, HN.out, HC.out, rfl⟩, by decide⟩
    · go_wp2_with fail
      refine bodyPost_ret (results_cell_row rfl _ _ (w.heap.size + 1) 40 #[.int .u64 y0, .int .u64 y1, .int .u64 y2, .int .u64 y3, .int .u64 y4] (0, 0) _ rfl (heap_alloc2_new w _ _) Tryd.underlying40 rfl (by kernel_rfl)) rfl ?_
      refine ⟨?_, ?_⟩
      · rw [HC.out]; rfl
      · exact bel_drewN ((bel_two w _ _)) _
attribute [local go_sem] setCell_drewN
theorem small_calls (n : Int) (w : World) (h0 : 0 ≤ n) (h1 : n < 4294967296) :
    Calls Tryd.prog 49 #[.int .u32 n] w fun e w' => e = .returned (E5 n 0 0 0 0) ∧ Below w.heap.size w w' := by
  have hw : IntKind.u64.wrap n = n := u64w n h0 (by omega)
  go_enter Tryd.func49, Tryd.ntmps49
  go_wp2
  refine bodyPost_ret (results_cell_row rfl _ _ w.heap.size 40 #[.int .u64 n, .int .u64 0, .int .u64 0, .int .u64 0, .int .u64 0] (0, 0) _ rfl (heap_alloc_new w _) Tryd.underlying40 rfl (by kernel_rfl)) rfl ?_
  exact ⟨rfl, (Below.refl _ _).alloc (Nat.le_refl _) _⟩
theorem set5_row {w : World} {g : Nat} {t0 t1 t2 t3 t4 a0 a1 a2 a3 a4 : Value} {t : TypeId} (h : w.heap[g]? = some (.cells #[a0, a1, a2, a3, a4] t (0, 0))) :
    (((((w.setCell ⟨g, 0, none⟩ t0).setCell ⟨g, 1, none⟩ t1).setCell ⟨g, 2, none⟩ t2).setCell ⟨g, 3, none⟩ t3).setCell ⟨g, 4, none⟩ t4).heap[g]? = some (.cells #[t0, t1, t2, t3, t4] t (0, 0)) := by
  have h0 := heap_setCell_same w g 0 _ t t0 h
  have h1 := heap_setCell_same _ g 1 _ t t1 h0
  have h2 := heap_setCell_same _ g 2 _ t t2 h1
  have h3 := heap_setCell_same _ g 3 _ t t3 h2
  have h4 := heap_setCell_same _ g 4 _ t t4 h3
  exact h4
theorem set5_bel {B g : Nat} {w W : World} {t0 t1 t2 t3 t4 : Value} (h : Below B w W) (hg : B ≤ g) :
    Below B w (((((W.setCell ⟨g, 0, none⟩ t0).setCell ⟨g, 1, none⟩ t1).setCell ⟨g, 2, none⟩ t2).setCell ⟨g, 3, none⟩ t3).setCell ⟨g, 4, none⟩ t4) :=
  yJ (yJ (yJ (yJ (yJ h _ _ hg) _ _ hg) _ _ hg) _ _ hg) _ _ hg
theorem carried_b (x0 x1 x2 x3 x4 : Int) (w : World) (h : ∀ x ∈ [x0, x1, x2, x3, x4], 0 ≤ x ∧ x ≤ 9223372036854775808) :
    Calls Tryd.prog 72 #[.agg #[.int .u64 x0, .int .u64 x1, .int .u64 x2, .int .u64 x3, .int .u64 x4]] w fun e w' => e = .returned (E5t (carriedZ x0 x1 x2 x3 x4)) ∧ Below w.heap.size w w' :=
  carried_calls x0 x1 x2 x3 x4 w (h _ (by simp)) (h _ (by simp)) (h _ (by simp)) (h _ (by simp)) (h _ (by simp))
def addW (w : World) (x0 x1 x2 x3 x4 z0 z1 z2 z3 z4 : Int) : Nat → World
  | 0 => ((w.alloc (.cells #[.int .u64 (x0), .int .u64 (x1), .int .u64 (x2), .int .u64 (x3), .int .u64 (x4)] 40)).alloc (.cells #[.int .u64 z0, .int .u64 z1, .int .u64 z2, .int .u64 z3, .int .u64 z4] 40)).alloc (.cells #[.int .u64 0, .int .u64 0, .int .u64 0, .int .u64 0, .int .u64 0] 40)
  | 1 => ((w.alloc (.cells #[.int .u64 (x0 + z0), .int .u64 (x1), .int .u64 (x2), .int .u64 (x3), .int .u64 (x4)] 40)).alloc (.cells #[.int .u64 z0, .int .u64 z1, .int .u64 z2, .int .u64 z3, .int .u64 z4] 40)).alloc (.cells #[.int .u64 0, .int .u64 0, .int .u64 0, .int .u64 0, .int .u64 0] 40)
  | 2 => ((w.alloc (.cells #[.int .u64 (x0 + z0), .int .u64 (x1 + z1), .int .u64 (x2), .int .u64 (x3), .int .u64 (x4)] 40)).alloc (.cells #[.int .u64 z0, .int .u64 z1, .int .u64 z2, .int .u64 z3, .int .u64 z4] 40)).alloc (.cells #[.int .u64 0, .int .u64 0, .int .u64 0, .int .u64 0, .int .u64 0] 40)
  | 3 => ((w.alloc (.cells #[.int .u64 (x0 + z0), .int .u64 (x1 + z1), .int .u64 (x2 + z2), .int .u64 (x3), .int .u64 (x4)] 40)).alloc (.cells #[.int .u64 z0, .int .u64 z1, .int .u64 z2, .int .u64 z3, .int .u64 z4] 40)).alloc (.cells #[.int .u64 0, .int .u64 0, .int .u64 0, .int .u64 0, .int .u64 0] 40)
  | 4 => ((w.alloc (.cells #[.int .u64 (x0 + z0), .int .u64 (x1 + z1), .int .u64 (x2 + z2), .int .u64 (x3 + z3), .int .u64 (x4)] 40)).alloc (.cells #[.int .u64 z0, .int .u64 z1, .int .u64 z2, .int .u64 z3, .int .u64 z4] 40)).alloc (.cells #[.int .u64 0, .int .u64 0, .int .u64 0, .int .u64 0, .int .u64 0] 40)
  | _ => ((w.alloc (.cells #[.int .u64 (x0 + z0), .int .u64 (x1 + z1), .int .u64 (x2 + z2), .int .u64 (x3 + z3), .int .u64 (x4 + z4)] 40)).alloc (.cells #[.int .u64 z0, .int .u64 z1, .int .u64 z2, .int .u64 z3, .int .u64 z4] 40)).alloc (.cells #[.int .u64 0, .int .u64 0, .int .u64 0, .int .u64 0, .int .u64 0] 40)
def addRel (w : World) (x0 x1 x2 x3 x4 z0 z1 z2 z3 z4 : Int) (v6 : Value) (wr : World) : Prop :=
  ∃ (i m : Nat), i ≤ 5 ∧ v6 = .int .i64 (i : Int) ∧ wr = (addW w x0 x1 x2 x3 x4 z0 z1 z2 z3 z4 i).drewN m
theorem add_calls (x0 x1 x2 x3 x4 z0 z1 z2 z3 z4 : Int) (w : World) (hx : ∀ x ∈ [x0, x1, x2, x3, x4], 0 ≤ x ∧ x < 4503599627370496) (hz : ∀ x ∈ [z0, z1, z2, z3, z4], 0 ≤ x ∧ x < 4503599627370496) :
    Calls Tryd.prog 51 #[E5 x0 x1 x2 x3 x4, E5 z0 z1 z2 z3 z4] w fun e w' => e = .returned (E5t (carriedZ (x0 + z0) (x1 + z1) (x2 + z2) (x3 + z3) (x4 + z4))) ∧ Below w.heap.size w w' := by
  have a0 := hx x0 (by simp); have a1 := hx x1 (by simp); have a2 := hx x2 (by simp); have a3 := hx x3 (by simp); have a4 := hx x4 (by simp)
  have b0 := hz z0 (by simp); have b1 := hz z1 (by simp); have b2 := hz z2 (by simp); have b3 := hz z3 (by simp); have b4 := hz z4 (by simp)
  have w00 : IntKind.u64.wrap (x0 + z0) = x0 + z0 := u64w _ (by omega) (by omega)
  have w10 : IntKind.u64.wrap (x1 + z1) = x1 + z1 := u64w _ (by omega) (by omega)
  have w20 : IntKind.u64.wrap (x2 + z2) = x2 + z2 := u64w _ (by omega) (by omega)
  have w30 : IntKind.u64.wrap (x3 + z3) = x3 + z3 := u64w _ (by omega) (by omega)
  have w40 : IntKind.u64.wrap (x4 + z4) = x4 + z4 := u64w _ (by omega) (by omega)
  have HC := Aside0.mk (fun w => carried_b (x0 + z0) (x1 + z1) (x2 + z2) (x3 + z3) (x4 + z4) w (by intro x hx; simp only [List.mem_cons, List.not_mem_nil, or_false] at hx; omega))
  clear hx hz a0 a1 a2 a3 a4 b0 b1 b2 b3 b4
  unfold E5
  go_enter Tryd.func51, Tryd.ntmps51
  go_wp2
  go_loopw [6] (fun v6 wr => addRel w x0 x1 x2 x3 x4 z0 z1 z2 z3 z4 v6 wr) (fun v _ => 5 - (intOf v).toNat)
  case atStart => exact ⟨0, 0, by omega, rfl, rfl⟩
  case round =>
    obtain ⟨i, m, hi, rfl, rfl⟩ := hrel
    have hc : i = 0 ∨ i = 1 ∨ i = 2 ∨ i = 3 ∨ i = 4 ∨ i = 5 := by omega
    rcases hc with rfl | rfl | rfl | rfl | rfl | rfl
    · simp only [addW]
      go_wp2_with fail
      try go_region
      all_goals go_wp2_with fail
      all_goals exact ⟨⟨1, m + 1, by omega, rfl, rfl⟩, by decide⟩
    · simp only [addW]
      go_wp2_with fail
      try go_region
      all_goals go_wp2_with fail
      all_goals exact ⟨⟨2, m + 1, by omega, rfl, rfl⟩, by decide⟩
    · simp only [addW]
      go_wp2_with fail
      try go_region
      all_goals go_wp2_with fail
      all_goals exact ⟨⟨3, m + 1, by omega, rfl, rfl⟩, by decide⟩
    · simp only [addW]
      go_wp2_with fail
      try go_region
      all_goals go_wp2_with fail
      all_goals exact ⟨⟨4, m + 1, by omega, rfl, rfl⟩, by decide⟩
    · simp only [addW]
      go_wp2_with fail
      try go_region
      all_goals go_wp2_with fail
      all_goals exact ⟨⟨5, m + 1, by omega, rfl, rfl⟩, by decide⟩
    · simp only [addW]
      go_wp2_with fail
      refine (HC.out _).mono ?_
      rintro e w1 ⟨rfl, hb⟩
      have hrow : w1.heap[w.heap.size + 1 + 1]? = some (.cells #[.int .u64 0, .int .u64 0, .int .u64 0, .int .u64 0, .int .u64 0] 40 (0, 0)) := (hb.block _ (by simp)).trans (three_new w _ _ _)
      have HBel := Aside0.mk ((bel_drewN (bel_three w _ _ _) m).trans (hb.mono (bel_drewN (bel_three w _ _ _) m).size))
      have hlt : w.heap.size + 1 + 1 < w1.heap.size := (Array.getElem?_eq_some_iff.1 hrow).1
      clear hb HC
      generalize ht : carriedZ (x0 + z0) (x1 + z1) (x2 + z2) (x3 + z3) (x4 + z4) = t
      obtain ⟨t0, t1, t2, t3, t4⟩ := t
      have HT := Aside0.mk ht
      clear ht
      simp only [E5t, E5]
      have k0 := cell_of_row w1 _ 0 _ _ _ hrow
      have k1 := cell_of_row w1 _ 1 _ _ _ hrow
      have k2 := cell_of_row w1 _ 2 _ _ _ hrow
      have k3 := cell_of_row w1 _ 3 _ _ _ hrow
      have k4 := cell_of_row w1 _ 4 _ _ _ hrow
      have f0 := frozen_of_row w1 _ 0 _ _ hrow
      have f1 := frozen_of_row w1 _ 1 _ _ hrow
      have f2 := frozen_of_row w1 _ 2 _ _ hrow
      have f3 := frozen_of_row w1 _ 3 _ _ hrow
      have f4 := frozen_of_row w1 _ 4 _ _ hrow
      go_wp2_with fail
      refine bodyPost_ret (results_cell_row rfl _ _ (w.heap.size + 1 + 1) 40 #[.int .u64 t0, .int .u64 t1, .int .u64 t2, .int .u64 t3, .int .u64 t4] (0, 0) _ rfl (set5_row hrow) Tryd.underlying40 rfl (by kernel_rfl)) rfl ?_
      exact ⟨by rw [HT.out]; rfl, set5_bel HBel.out (by omega)⟩
attribute [local go_sem] setCell_drewN
def subW (w : World) (x0 x1 x2 x3 x4 z0 z1 z2 z3 z4 : Int) : Nat → World
  | 0 => ((w.alloc (.cells #[.int .u64 (x0), .int .u64 (x1), .int .u64 (x2), .int .u64 (x3), .int .u64 (x4)] 40)).alloc (.cells #[.int .u64 z0, .int .u64 z1, .int .u64 z2, .int .u64 z3, .int .u64 z4] 40)).alloc (.cells #[.int .u64 0, .int .u64 0, .int .u64 0, .int .u64 0, .int .u64 0] 40)
  | 1 => ((w.alloc (.cells #[.int .u64 (x0 + (9007199254740916 - z0)), .int .u64 (x1), .int .u64 (x2), .int .u64 (x3), .int .u64 (x4)] 40)).alloc (.cells #[.int .u64 z0, .int .u64 z1, .int .u64 z2, .int .u64 z3, .int .u64 z4] 40)).alloc (.cells #[.int .u64 0, .int .u64 0, .int .u64 0, .int .u64 0, .int .u64 0] 40)
  | 2 => ((w.alloc (.cells #[.int .u64 (x0 + (9007199254740916 - z0)), .int .u64 (x1 + (9007199254740988 - z1)), .int .u64 (x2), .int .u64 (x3), .int .u64 (x4)] 40)).alloc (.cells #[.int .u64 z0, .int .u64 z1, .int .u64 z2, .int .u64 z3, .int .u64 z4] 40)).alloc (.cells #[.int .u64 0, .int .u64 0, .int .u64 0, .int .u64 0, .int .u64 0] 40)
  | 3 => ((w.alloc (.cells #[.int .u64 (x0 + (9007199254740916 - z0)), .int .u64 (x1 + (9007199254740988 - z1)), .int .u64 (x2 + (9007199254740988 - z2)), .int .u64 (x3), .int .u64 (x4)] 40)).alloc (.cells #[.int .u64 z0, .int .u64 z1, .int .u64 z2, .int .u64 z3, .int .u64 z4] 40)).alloc (.cells #[.int .u64 0, .int .u64 0, .int .u64 0, .int .u64 0, .int .u64 0] 40)
  | 4 => ((w.alloc (.cells #[.int .u64 (x0 + (9007199254740916 - z0)), .int .u64 (x1 + (9007199254740988 - z1)), .int .u64 (x2 + (9007199254740988 - z2)), .int .u64 (x3 + (9007199254740988 - z3)), .int .u64 (x4)] 40)).alloc (.cells #[.int .u64 z0, .int .u64 z1, .int .u64 z2, .int .u64 z3, .int .u64 z4] 40)).alloc (.cells #[.int .u64 0, .int .u64 0, .int .u64 0, .int .u64 0, .int .u64 0] 40)
  | _ => ((w.alloc (.cells #[.int .u64 (x0 + (9007199254740916 - z0)), .int .u64 (x1 + (9007199254740988 - z1)), .int .u64 (x2 + (9007199254740988 - z2)), .int .u64 (x3 + (9007199254740988 - z3)), .int .u64 (x4 + (9007199254740988 - z4))] 40)).alloc (.cells #[.int .u64 z0, .int .u64 z1, .int .u64 z2, .int .u64 z3, .int .u64 z4] 40)).alloc (.cells #[.int .u64 0, .int .u64 0, .int .u64 0, .int .u64 0, .int .u64 0] 40)
def subRel (w : World) (x0 x1 x2 x3 x4 z0 z1 z2 z3 z4 : Int) (v6 : Value) (wr : World) : Prop :=
  ∃ (i m : Nat), i ≤ 5 ∧ v6 = .int .i64 (i : Int) ∧ wr = (subW w x0 x1 x2 x3 x4 z0 z1 z2 z3 z4 i).drewN m
theorem sub_calls (x0 x1 x2 x3 x4 z0 z1 z2 z3 z4 : Int) (w : World) (hx : ∀ x ∈ [x0, x1, x2, x3, x4], 0 ≤ x ∧ x < 4503599627370496) (hz : ∀ x ∈ [z0, z1, z2, z3, z4], 0 ≤ x ∧ x < 4503599627370496) :
    Calls Tryd.prog 50 #[E5 x0 x1 x2 x3 x4, E5 z0 z1 z2 z3 z4] w fun e w' => e = .returned (E5t (carriedZ (x0 + (9007199254740916 - z0)) (x1 + (9007199254740988 - z1)) (x2 + (9007199254740988 - z2)) (x3 + (9007199254740988 - z3)) (x4 + (9007199254740988 - z4)))) ∧ Below w.heap.size w w' := by
  have a0 := hx x0 (by simp); have a1 := hx x1 (by simp); have a2 := hx x2 (by simp); have a3 := hx x3 (by simp); have a4 := hx x4 (by simp)
  have b0 := hz z0 (by simp); have b1 := hz z1 (by simp); have b2 := hz z2 (by simp); have b3 := hz z3 (by simp); have b4 := hz z4 (by simp)
  have w00 : IntKind.u64.wrap (9007199254740916 - z0) = 9007199254740916 - z0 := u64w _ (by omega) (by omega)
  have w01 : IntKind.u64.wrap (x0 + (9007199254740916 - z0)) = x0 + (9007199254740916 - z0) := u64w _ (by omega) (by omega)
  have w10 : IntKind.u64.wrap (9007199254740988 - z1) = 9007199254740988 - z1 := u64w _ (by omega) (by omega)
  have w11 : IntKind.u64.wrap (x1 + (9007199254740988 - z1)) = x1 + (9007199254740988 - z1) := u64w _ (by omega) (by omega)
  have w20 : IntKind.u64.wrap (9007199254740988 - z2) = 9007199254740988 - z2 := u64w _ (by omega) (by omega)
  have w21 : IntKind.u64.wrap (x2 + (9007199254740988 - z2)) = x2 + (9007199254740988 - z2) := u64w _ (by omega) (by omega)
  have w30 : IntKind.u64.wrap (9007199254740988 - z3) = 9007199254740988 - z3 := u64w _ (by omega) (by omega)
  have w31 : IntKind.u64.wrap (x3 + (9007199254740988 - z3)) = x3 + (9007199254740988 - z3) := u64w _ (by omega) (by omega)
  have w40 : IntKind.u64.wrap (9007199254740988 - z4) = 9007199254740988 - z4 := u64w _ (by omega) (by omega)
  have w41 : IntKind.u64.wrap (x4 + (9007199254740988 - z4)) = x4 + (9007199254740988 - z4) := u64w _ (by omega) (by omega)
  have HC := Aside0.mk (fun w => carried_b (x0 + (9007199254740916 - z0)) (x1 + (9007199254740988 - z1)) (x2 + (9007199254740988 - z2)) (x3 + (9007199254740988 - z3)) (x4 + (9007199254740988 - z4)) w (by intro x hx; simp only [List.mem_cons, List.not_mem_nil, or_false] at hx; omega))
  clear hx hz a0 a1 a2 a3 a4 b0 b1 b2 b3 b4
  unfold E5
  go_enter Tryd.func50, Tryd.ntmps50
  go_wp2
  go_loopw [7] (fun v6 wr => subRel w x0 x1 x2 x3 x4 z0 z1 z2 z3 z4 v6 wr) (fun v _ => 5 - (intOf v).toNat)
  case atStart => exact ⟨0, 0, by omega, rfl, rfl⟩
  case round =>
    obtain ⟨i, m, hi, rfl, rfl⟩ := hrel
    have hc : i = 0 ∨ i = 1 ∨ i = 2 ∨ i = 3 ∨ i = 4 ∨ i = 5 := by omega
    rcases hc with rfl | rfl | rfl | rfl | rfl | rfl
    · simp only [subW]
      go_wp2_with fail
      try go_region
      all_goals go_wp2_with fail
      all_goals exact ⟨⟨1, m + 1, by omega, rfl, rfl⟩, by decide⟩
    · simp only [subW]
      go_wp2_with fail
      try go_region
      all_goals go_wp2_with fail
      all_goals exact ⟨⟨2, m + 1, by omega, rfl, rfl⟩, by decide⟩
    · simp only [subW]
      go_wp2_with fail
      try go_region
      all_goals go_wp2_with fail
      all_goals exact ⟨⟨3, m + 1, by omega, rfl, rfl⟩, by decide⟩
    · simp only [subW]
      go_wp2_with fail
      try go_region
      all_goals go_wp2_with fail
      all_goals exact ⟨⟨4, m + 1, by omega, rfl, rfl⟩, by decide⟩
    · simp only [subW]
      go_wp2_with fail
      try go_region
      all_goals go_wp2_with fail
      all_goals exact ⟨⟨5, m + 1, by omega, rfl, rfl⟩, by decide⟩
    · simp only [subW]
      go_wp2_with fail
      refine (HC.out _).mono ?_
      rintro e w1 ⟨rfl, hb⟩
      have hrow : w1.heap[w.heap.size + 1 + 1]? = some (.cells #[.int .u64 0, .int .u64 0, .int .u64 0, .int .u64 0, .int .u64 0] 40 (0, 0)) := (hb.block _ (by simp)).trans (three_new w _ _ _)
      have HBel := Aside0.mk ((bel_drewN (bel_three w _ _ _) m).trans (hb.mono (bel_drewN (bel_three w _ _ _) m).size))
      have hlt : w.heap.size + 1 + 1 < w1.heap.size := (Array.getElem?_eq_some_iff.1 hrow).1
      clear hb HC
      generalize ht : carriedZ (x0 + (9007199254740916 - z0)) (x1 + (9007199254740988 - z1)) (x2 + (9007199254740988 - z2)) (x3 + (9007199254740988 - z3)) (x4 + (9007199254740988 - z4)) = t
      obtain ⟨t0, t1, t2, t3, t4⟩ := t
      have HT := Aside0.mk ht
      clear ht
      simp only [E5t, E5]
      have k0 := cell_of_row w1 _ 0 _ _ _ hrow
      have k1 := cell_of_row w1 _ 1 _ _ _ hrow
      have k2 := cell_of_row w1 _ 2 _ _ _ hrow
      have k3 := cell_of_row w1 _ 3 _ _ _ hrow
      have k4 := cell_of_row w1 _ 4 _ _ _ hrow
      have f0 := frozen_of_row w1 _ 0 _ _ hrow
      have f1 := frozen_of_row w1 _ 1 _ _ hrow
      have f2 := frozen_of_row w1 _ 2 _ _ hrow
      have f3 := frozen_of_row w1 _ 3 _ _ hrow
      have f4 := frozen_of_row w1 _ 4 _ _ hrow
      go_wp2_with fail
      refine bodyPost_ret (results_cell_row rfl _ _ (w.heap.size + 1 + 1) 40 #[.int .u64 t0, .int .u64 t1, .int .u64 t2, .int .u64 t3, .int .u64 t4] (0, 0) _ rfl (set5_row hrow) Tryd.underlying40 rfl (by kernel_rfl)) rfl ?_
      exact ⟨by rw [HT.out]; rfl, set5_bel HBel.out (by omega)⟩
attribute [local go_sem] setCell_drewN
theorem neg_calls (z0 z1 z2 z3 z4 : Int) (w : World) (hz : ∀ x ∈ [z0, z1, z2, z3, z4], 0 ≤ x ∧ x < 4503599627370496) :
    Calls Tryd.prog 54 #[E5 z0 z1 z2 z3 z4] w fun e w' => e = .returned (E5t (carriedZ (0 + (9007199254740916 - z0)) (0 + (9007199254740988 - z1)) (0 + (9007199254740988 - z2)) (0 + (9007199254740988 - z3)) (0 + (9007199254740988 - z4)))) ∧ Below w.heap.size w w' := by
  have HC := Aside0.mk (fun w => sub_calls 0 0 0 0 0 z0 z1 z2 z3 z4 w (by intro x hx; simp only [List.mem_cons, List.not_mem_nil, or_false, or_self] at hx; omega) hz)
  clear hz
  generalize ht : carriedZ (0 + (9007199254740916 - z0)) (0 + (9007199254740988 - z1)) (0 + (9007199254740988 - z2)) (0 + (9007199254740988 - z3)) (0 + (9007199254740988 - z4)) = t at HC
  clear ht
  obtain ⟨t0, t1, t2, t3, t4⟩ := t
  simp only [E5t, E5] at HC ⊢
  go_enter Tryd.func54, Tryd.ntmps54
  go_wp2_with fail
  refine (HC.out _).mono ?_
  rintro e w1 ⟨rfl, hb⟩
  have hrow : w1.heap[w.heap.size + 1]? = some (.cells #[.int .u64 0, .int .u64 0, .int .u64 0, .int .u64 0, .int .u64 0] 40 (0, 0)) := (hb.block _ (by simp)).trans (heap_alloc2_new w _ _)
  have HBel := Aside0.mk ((bel_two w _ _).trans (hb.mono (bel_two w _ _).size))
  have hlt : w.heap.size + 1 < w1.heap.size := (Array.getElem?_eq_some_iff.1 hrow).1
  clear hb HC
  have k0 := cell_of_row w1 _ 0 _ _ _ hrow
  have k1 := cell_of_row w1 _ 1 _ _ _ hrow
  have k2 := cell_of_row w1 _ 2 _ _ _ hrow
  have k3 := cell_of_row w1 _ 3 _ _ _ hrow
  have k4 := cell_of_row w1 _ 4 _ _ _ hrow
  have f0 := frozen_of_row w1 _ 0 _ _ hrow
  have f1 := frozen_of_row w1 _ 1 _ _ hrow
  have f2 := frozen_of_row w1 _ 2 _ _ hrow
  have f3 := frozen_of_row w1 _ 3 _ _ hrow
  have f4 := frozen_of_row w1 _ 4 _ _ hrow
  go_wp2_with fail
  refine bodyPost_ret (results_cell_row rfl _ _ (w.heap.size + 1) 40 #[.int .u64 t0, .int .u64 t1, .int .u64 t2, .int .u64 t3, .int .u64 t4] (0, 0) _ rfl (set5_row hrow) Tryd.underlying40 rfl (by kernel_rfl)) rfl ?_
  exact ⟨rfl, set5_bel HBel.out (by omega)⟩
attribute [local go_sem] setCell_drewN
def ldZ (b : Nat → Int) : Nat → Int
  | 0 => 0
  | k + 1 => ldZ b k * 256 + b (7 - k)
theorem ldZ_b (b : Nat → Int) (hb : ∀ j, j < 8 → 0 ≤ b j ∧ b j < 256) : ∀ k : Nat, k ≤ 8 → 0 ≤ ldZ b k ∧ ldZ b k < 256 ^ k
  | 0, _ => ⟨by simp [ldZ], by simp [ldZ]⟩
  | k + 1, h => by
    have h1 := ldZ_b b hb k (by omega)
    have h2 := hb (7 - k) (by omega)
    have e : ldZ b (k + 1) = ldZ b k * 256 + b (7 - k) := rfl
    rw [e, Int.pow_succ]
    omega
theorem or256 (x y : Int) (h0 : 0 ≤ x ∧ x < 72057594037927936) (h1 : 0 ≤ y) (h2 : y < 256) : Go.bits .or .u64 (x * 256) y = x * 256 + y := by
  rw [u64_or _ _ (by omega) (by omega) (by omega) (by omega)]
  have e : (x * 256).toNat ||| y.toNat = x.toNat * 2 ^ 8 + y.toNat := by
    have : (x * 256).toNat = x.toNat * 2 ^ 8 := by omega
    rw [this, Nat.mul_comm, ← Nat.two_pow_add_eq_or_of_lt (by omega)]
  rw [e]
  omega
def LRel (b : Nat → Int) (w : World) (v4 v3 : Value) (wr : World) : Prop := ∃ i : Nat, i ≤ 8 ∧ v4 = .int .i64 (7 - (i : Int)) ∧ v3 = .int .u64 (ldZ b i) ∧ wr = w
theorem load_calls (b : Nat → Int) (g off n c : Nat) (w : World) (hn : 8 ≤ n) (hb : ∀ j, j < 8 → 0 ≤ b j ∧ b j < 256) (hc : ∀ j, j < 8 → w.cell? ⟨g, off + j, none⟩ = some (.int .u8 (b j))) :
    Calls Tryd.prog 80 #[.slice (some ⟨g, off, none⟩) n c] w fun e w' => e = .returned (.int .u64 (ldZ b 8)) ∧ w' = w := by
  go_enter Tryd.func80, Tryd.ntmps80
  go_wp2
  go_loopw [3, 4] (fun v3 v4 wr => LRel b w v4 v3 wr) (fun _ v _ => ((intOf v) + 1).toNat)
  case atStart => exact ⟨0, by omega, rfl, rfl, rfl⟩
  case round =>
    obtain ⟨i, hi, rfl, rfl, rfl⟩ := hrel
    have hcase : i = 0 ∨ i = 1 ∨ i = 2 ∨ i = 3 ∨ i = 4 ∨ i = 5 ∨ i = 6 ∨ i = 7 ∨ i = 8 := by omega
    rcases hcase with rfl | rfl | rfl | rfl | rfl | rfl | rfl | rfl | rfl
    · have hcj := hc 7 (by omega)
      have hbj := hb 7 (by omega)
      have hlt : ((7 : Int) < (n : Int)) = True := eq_true (by omega)
      have hX := ldZ_b b hb 0 (by omega)
      have e1 : ldZ b 1 = ldZ b 0 * 256 + b 7 := rfl
      have hw1 : IntKind.u64.wrap (ldZ b 0 * 256) = ldZ b 0 * 256 := u64w _ (by omega) (by omega)
      have hw2 : IntKind.u64.wrap (b 7) = b 7 := u64w _ (by omega) (by omega)
      have hor := or256 (ldZ b 0) (b 7) (by omega) (by omega) (by omega)
      have HE := Aside0.mk e1
      clear hX hbj hb hc e1
      go_wp2_with fail
      exact ⟨⟨1, by omega, rfl, by rw [HE.out], rfl⟩, by decide⟩
    · have hcj := hc 6 (by omega)
      have hbj := hb 6 (by omega)
      have hlt : ((6 : Int) < (n : Int)) = True := eq_true (by omega)
      have hX := ldZ_b b hb 1 (by omega)
      have e1 : ldZ b 2 = ldZ b 1 * 256 + b 6 := rfl
      have hw1 : IntKind.u64.wrap (ldZ b 1 * 256) = ldZ b 1 * 256 := u64w _ (by omega) (by omega)
      have hw2 : IntKind.u64.wrap (b 6) = b 6 := u64w _ (by omega) (by omega)
      have hor := or256 (ldZ b 1) (b 6) (by omega) (by omega) (by omega)
      have HE := Aside0.mk e1
      clear hX hbj hb hc e1
      go_wp2_with fail
      exact ⟨⟨2, by omega, rfl, by rw [HE.out], rfl⟩, by decide⟩
    · have hcj := hc 5 (by omega)
      have hbj := hb 5 (by omega)
      have hlt : ((5 : Int) < (n : Int)) = True := eq_true (by omega)
      have hX := ldZ_b b hb 2 (by omega)
      have e1 : ldZ b 3 = ldZ b 2 * 256 + b 5 := rfl
      have hw1 : IntKind.u64.wrap (ldZ b 2 * 256) = ldZ b 2 * 256 := u64w _ (by omega) (by omega)
      have hw2 : IntKind.u64.wrap (b 5) = b 5 := u64w _ (by omega) (by omega)
      have hor := or256 (ldZ b 2) (b 5) (by omega) (by omega) (by omega)
      have HE := Aside0.mk e1
      clear hX hbj hb hc e1
      go_wp2_with fail
      exact ⟨⟨3, by omega, rfl, by rw [HE.out], rfl⟩, by decide⟩
    · have hcj := hc 4 (by omega)
      have hbj := hb 4 (by omega)
      have hlt : ((4 : Int) < (n : Int)) = True := eq_true (by omega)
      have hX := ldZ_b b hb 3 (by omega)
      have e1 : ldZ b 4 = ldZ b 3 * 256 + b 4 := rfl
      have hw1 : IntKind.u64.wrap (ldZ b 3 * 256) = ldZ b 3 * 256 := u64w _ (by omega) (by omega)
      have hw2 : IntKind.u64.wrap (b 4) = b 4 := u64w _ (by omega) (by omega)
      have hor := or256 (ldZ b 3) (b 4) (by omega) (by omega) (by omega)
      have HE := Aside0.mk e1
      clear hX hbj hb hc e1
      go_wp2_with fail
      exact ⟨⟨4, by omega, rfl, by rw [HE.out], rfl⟩, by decide⟩
    · have hcj := hc 3 (by omega)
      have hbj := hb 3 (by omega)
      have hlt : ((3 : Int) < (n : Int)) = True := eq_true (by omega)
      have hX := ldZ_b b hb 4 (by omega)
      have e1 : ldZ b 5 = ldZ b 4 * 256 + b 3 := rfl
      have hw1 : IntKind.u64.wrap (ldZ b 4 * 256) = ldZ b 4 * 256 := u64w _ (by omega) (by omega)
      have hw2 : IntKind.u64.wrap (b 3) = b 3 := u64w _ (by omega) (by omega)
      have hor := or256 (ldZ b 4) (b 3) (by omega) (by omega) (by omega)
      have HE := Aside0.mk e1
      clear hX hbj hb hc e1
      go_wp2_with fail
      exact ⟨⟨5, by omega, rfl, by rw [HE.out], rfl⟩, by decide⟩
    · have hcj := hc 2 (by omega)
      have hbj := hb 2 (by omega)
      have hlt : ((2 : Int) < (n : Int)) = True := eq_true (by omega)
      have hX := ldZ_b b hb 5 (by omega)
      have e1 : ldZ b 6 = ldZ b 5 * 256 + b 2 := rfl
      have hw1 : IntKind.u64.wrap (ldZ b 5 * 256) = ldZ b 5 * 256 := u64w _ (by omega) (by omega)
      have hw2 : IntKind.u64.wrap (b 2) = b 2 := u64w _ (by omega) (by omega)
      have hor := or256 (ldZ b 5) (b 2) (by omega) (by omega) (by omega)
      have HE := Aside0.mk e1
      clear hX hbj hb hc e1
      go_wp2_with fail
      exact ⟨⟨6, by omega, rfl, by rw [HE.out], rfl⟩, by decide⟩
    · have hcj := hc 1 (by omega)
      have hbj := hb 1 (by omega)
      have hlt : ((1 : Int) < (n : Int)) = True := eq_true (by omega)
      have hX := ldZ_b b hb 6 (by omega)
      have e1 : ldZ b 7 = ldZ b 6 * 256 + b 1 := rfl
      have hw1 : IntKind.u64.wrap (ldZ b 6 * 256) = ldZ b 6 * 256 := u64w _ (by omega) (by omega)
      have hw2 : IntKind.u64.wrap (b 1) = b 1 := u64w _ (by omega) (by omega)
      have hor := or256 (ldZ b 6) (b 1) (by omega) (by omega) (by omega)
      have HE := Aside0.mk e1
      clear hX hbj hb hc e1
      go_wp2_with fail
      exact ⟨⟨7, by omega, rfl, by rw [HE.out], rfl⟩, by decide⟩
    · have hcj : wr.cell? ⟨g, off, none⟩ = some (.int .u8 (b 0)) := hc 0 (by omega)
      have hbj := hb 0 (by omega)
      have hlt : ((0 : Int) < (n : Int)) = True := eq_true (by omega)
      have hX := ldZ_b b hb 7 (by omega)
      have e1 : ldZ b 8 = ldZ b 7 * 256 + b 0 := rfl
      have hw1 : IntKind.u64.wrap (ldZ b 7 * 256) = ldZ b 7 * 256 := u64w _ (by omega) (by omega)
      have hw2 : IntKind.u64.wrap (b 0) = b 0 := u64w _ (by omega) (by omega)
      have hor := or256 (ldZ b 7) (b 0) (by omega) (by omega) (by omega)
      have HE := Aside0.mk e1
      clear hX hbj hb hc e1
      go_wp2_with fail
      exact ⟨⟨8, by omega, rfl, by rw [HE.out], rfl⟩, by decide⟩
    · go_wp2_with fail
      go_ret
      exact ⟨rfl, rfl⟩
attribute [local go_sem] setCell_drewN
def cstep (f : Nat → Int) (i : Nat) : Nat → Int :=
  if i < 15 then upd (upd f i (f i - f i / 65536 * 65536)) (i + 1) (f (i + 1) + f i / 65536) else upd (upd f i (f i - f i / 65536 * 65536)) 0 (f 0 + 38 * (f i / 65536))
def zM (f : Nat → Int) : Nat → Nat → Int
  | 0 => f
  | i + 1 => cstep (zM f i) i
def CB (f : Nat → Int) : Prop := ∀ j, j < 16 → - 2251799813685248 ≤ f j ∧ f j ≤ 2251799813685248
theorem carryN_b (f : Nat → Int) (hf : CB f) : ∀ i, i ≤ 15 → (∀ j, j < i → 0 ≤ zM f i j ∧ zM f i j < 65536) ∧ (-2251868533161984 ≤ zM f i i ∧ zM f i i ≤ 2251868533161984) ∧ ∀ j, i < j → zM f i j = f j
  | 0, _ => ⟨fun j h => absurd h (by omega), by have := hf 0 (by omega); simp only [zM]; omega, fun j _ => rfl⟩
  | i + 1, hi => by
    obtain ⟨h1, h2, h3⟩ := carryN_b f hf i (by omega)
    have e : zM f (i + 1) = upd (upd (zM f i) i (zM f i i - zM f i i / 65536 * 65536)) (i + 1) (zM f i (i + 1) + zM f i i / 65536) := by
      show cstep (zM f i) i = _
      unfold cstep; rw [if_pos (by omega)]
    refine ⟨fun j hj => ?_, ?_, fun j hj => ?_⟩
    · rw [e, upd_other _ _ _ _ (by omega)]
      by_cases hji : j = i
      · subst hji; rw [upd_same]; omega
      · rw [upd_other _ _ _ _ hji]; exact h1 j (by omega)
    · rw [e, upd_same, h3 (i + 1) (by omega)]
      have := hf (i + 1) (by omega)
      omega
    · rw [e, upd_other _ _ _ _ (by omega), upd_other _ _ _ _ (by omega)]; exact h3 j (by omega)
def KRel (w : World) (f : Nat → Int) (v3 : Value) (wr : World) : Prop :=
  ∃ (i : Nat), i ≤ 16 ∧ v3 = .int .i64 (i : Int) ∧ Below w.heap.size w wr ∧ Row wr w.heap.size .i64 16 (zM f i) 50 ∧ Row wr (w.heap.size + 1) .i64 16 (fun _ => 0) 50
theorem info33 : (Tryd.prog.info? 50).map (·.size) = some 16 := by kernel_rfl
theorem carry_calls (f : Nat → Int) (w : World) (hf : CB f) :
    Calls Tryd.prog 79 #[.agg (FR .i64 16 f)] w fun e w' => e = .returned (.agg (FR .i64 16 (zM f 16))) ∧ Below w.heap.size w w' := by
  have HF := Aside0.mk hf
  clear hf
  go_enter Tryd.func79, Tryd.ntmps79
  go_wp2
  go_loopw [3] (fun v3 wr => KRel w f v3 wr) (fun v _ => 16 - (intOf v).toNat)
  case atStart => exact ⟨0, by omega, rfl, bel_two w _ _, Row.alloc (Row.new w .i64 16 f 50) _, heap_alloc2_new w _ _⟩
  case round =>
    obtain ⟨i, hi, rfl, hb, hr, hr2⟩ := hrel
    have HB := Aside0.mk hb
    have HR := Aside0.mk hr
    have HR2 := Aside0.mk hr2
    have hlt1 : w.heap.size < wr.heap.size := hr.lt
    have hlt2 : w.heap.size + 1 < wr.heap.size := hr2.lt
    clear hb
    rcases Nat.lt_or_ge i 15 with h15 | h15
    · have hx := carryN_b f HF.out i (by omega)
      have hy := HF.out (i + 1) (by omega)
      have hlt : ((i : Int) < 16) = True := eq_true (by omega)
      have hlt2 : ((i : Int) < 15) = True := eq_true (by omega)
      have e1 := hx.2.2 (i + 1) (by omega)
      have k0 := hr.cell i (by omega)
      have k1 := hr.cell (i + 1) (by omega)
      have f0 := hr.fro i
      have f1 := hr.fro (i + 1)
      have HE := Aside0.mk (show zM f (i + 1) = upd (upd (zM f i) i (zM f i i - zM f i i / 65536 * 65536)) (i + 1) (zM f i (i + 1) + zM f i i / 65536) by
        show cstep (zM f i) i = _
        unfold cstep; rw [if_pos (by omega)])
      have HS := Aside0.mk ((hr.set i (zM f i i - zM f i i / 65536 * 65536) (by omega)).set (i + 1) (zM f i (i + 1) + zM f i i / 65536) (by omega))
      have hb2 := hx.2.1
      rw [← e1] at hy
      generalize zM f i i = x at *
      generalize zM f i (i + 1) = y at *
      have w1 : wrap64 (x / 65536 * 65536) = x / 65536 * 65536 := w64 _ (by omega)
      have w2 : wrap64 (x - x / 65536 * 65536) = x - x / 65536 * 65536 := w64 _ (by omega)
      have w3 : wrap64 (y + x / 65536) = y + x / 65536 := w64 _ (by omega)
      clear hx hr hr2 hb2 hy e1
      go_wp2_with fail
      refine ⟨⟨i + 1, by omega, rfl, yJ (yJ HB.out _ _ (Nat.le_refl _)) _ _ (Nat.le_refl _), ?_, ?_⟩, meas_up 16 i (by omega)⟩
      · rw [HE.out]; exact HS.out
      · exact (HR2.out.other _ _ (show w.heap.size + 1 ≠ w.heap.size by omega)).other _ _ (show w.heap.size + 1 ≠ w.heap.size by omega)
    · rcases Nat.lt_or_ge i 16 with h16 | h16
      · obtain rfl : i = 15 := by omega
        have hx := carryN_b f HF.out 15 (by omega)
        have hy := hx.1 0 (by omega)
        have k0 := hr.cell 15 (by omega)
        have k1 := hr.cell 0 (by omega)
        have f0 := hr.fro 15
        have f1 := hr.fro 0
        have HE := Aside0.mk (show zM f 16 = upd (upd (zM f 15) 15 (zM f 15 15 - zM f 15 15 / 65536 * 65536)) 0 (zM f 15 0 + 38 * (zM f 15 15 / 65536)) from rfl)
        have HS := Aside0.mk ((hr.set 15 (zM f 15 15 - zM f 15 15 / 65536 * 65536) (by omega)).set 0 (zM f 15 0 + 38 * (zM f 15 15 / 65536)) (by omega))
        have hb2 := hx.2.1
        generalize zM f 15 15 = x at *
        generalize zM f 15 0 = y at *
        have w1 : wrap64 (x / 65536 * 65536) = x / 65536 * 65536 := w64 _ (by omega)
        have w2 : wrap64 (x - x / 65536 * 65536) = x - x / 65536 * 65536 := w64 _ (by omega)
        have w3 : wrap64 (38 * (x / 65536)) = 38 * (x / 65536) := w64 _ (by omega)
        have w4 : wrap64 (y + 38 * (x / 65536)) = y + 38 * (x / 65536) := w64 _ (by omega)
        clear hx hr hr2 hb2 hy
        go_wp2_with fail
        refine ⟨⟨16, by omega, rfl, yJ (yJ HB.out _ _ (Nat.le_refl _)) _ _ (Nat.le_refl _), ?_, ?_⟩, by decide⟩
        · rw [HE.out]; exact HS.out
        · exact (HR2.out.other _ _ (show w.heap.size + 1 ≠ w.heap.size by omega)).other _ _ (show w.heap.size + 1 ≠ w.heap.size by omega)
      · obtain rfl : i = 16 := by omega
        clear hr hr2 hlt1 hlt2
        go_wp2_with (first | refine zX HR.out Tryd.underlying50 info33 rfl rfl rfl rfl ?_ | refine step_store (zM f 16) HR2.out info33 rfl rfl rfl rfl rfl ?_)
        refine bodyPost_ret (zY rfl (HR2.out.all) rfl Tryd.underlying50 rfl info33) rfl ?_
        exact ⟨rfl, yG (by omega) _ _ _ HB.out⟩
attribute [local go_sem] setCell_drewN
def pD (i : Nat) : Int := if i = 0 then 65517 else if i = 15 then 32767 else 65535
theorem P_calls (w : World) : Calls Tryd.prog 91 #[] w fun e w' => e = .returned (.agg (FR .i64 16 pD)) ∧ Below w.heap.size w w' := by
  go_enter Tryd.func91, Tryd.ntmps91
  go_wp2_with fail
  have e : (#[.int .i64 65517, .int .i64 65535, .int .i64 65535, .int .i64 65535, .int .i64 65535, .int .i64 65535, .int .i64 65535, .int .i64 65535, .int .i64 65535, .int .i64 65535, .int .i64 65535, .int .i64 65535, .int .i64 65535, .int .i64 65535, .int .i64 65535, .int .i64 32767] : Array Value) = FR .i64 16 pD := by kernel_rfl
  rw [e]
  refine bodyPost_ret (zY rfl (Row.new w .i64 16 pD 50) rfl Tryd.underlying50 rfl info33) rfl ?_
  exact ⟨rfl, (Below.refl _ _).alloc (Nat.le_refl _) _⟩
def bD (s : ByteArray) (i : Nat) : Int := sB s (2 * i) + 256 * sB s (2 * i + 1)
theorem of_wraps (i : Nat) (x y : Int) (hi : i < 16) (hx : 0 ≤ x ∧ x < 256) (hy : 0 ≤ y ∧ y < 256) : wrap64 x = x ∧ wrap64 y = y ∧ wrap64 (2 * (i : Int)) = 2 * (i : Int) ∧ wrap64 (2 * (i : Int) + 1) = 2 * (i : Int) + 1 ∧ wrap64 (256 * y) = 256 * y ∧ wrap64 (x + 256 * y) = x + 256 * y ∧ IntKind.i64.wrap (2 * (i : Int)) = 2 * (i : Int) ∧ IntKind.i64.wrap (2 * (i : Int) + 1) = 2 * (i : Int) + 1 ∧ IntKind.i64.wrap (256 * y) = 256 * y ∧ IntKind.i64.wrap (x + 256 * y) = x + 256 * y := ⟨w64 _ (by omega), w64 _ (by omega), w64 _ (by omega), w64 _ (by omega), w64 _ (by omega), w64 _ (by omega), i64w _ (by omega), i64w _ (by omega), i64w _ (by omega), i64w _ (by omega)⟩
def ORel (s : ByteArray) (w : World) (v4 : Value) (wr : World) : Prop :=
  ∃ (i : Nat), i ≤ 16 ∧ v4 = .int .i64 (i : Int) ∧ Below w.heap.size w wr ∧ Row wr (w.heap.size + 1) .i64 16 (fun j => if j < i then bD s j else 0) 50 ∧ Row wr w.heap.size .i64 16 (fun _ => 0) 50
theorem Of_calls (s : ByteArray) (w : World) (hs : s.size = 32) :
    Calls Tryd.prog 58 #[.string s] w fun e w' => e = .returned (.agg (FR .i64 16 (bD s))) ∧ Below w.heap.size w w' := by
  go_enter Tryd.func58, Tryd.ntmps58
  go_wp2_with fail
  go_loopw [4] (fun v3 wr => ORel s w v3 wr) (fun v _ => 16 - (intOf v).toNat)
  case atStart => exact ⟨0, by omega, rfl, bel_two w _ _, heap_alloc2_new w _ _, heap_alloc2_old w _ _⟩
  case round =>
    obtain ⟨i, hi, rfl, hb, hr, hr2⟩ := hrel
    have hlt1 := hr2.lt
    have hlt2 := hr.lt
    have HB := Aside0.mk hb
    have HR := Aside0.mk hr
    have HR2 := Aside0.mk hr2
    rcases Nat.lt_or_ge i 16 with h15 | h15
    · have hlt : ((i : Int) < 16) = True := eq_true (by omega)
      have f0 := hr.fro i
      have k0 := hr.cell i (by omega)
      obtain ⟨b0, hb0, hv0⟩ := sB_at s (2 * i) (by omega)
      obtain ⟨b1, hb1, hv1⟩ := sB_at s (2 * i + 1) (by omega)
      have l0 := b0.toNat_lt
      have l1 := b1.toNat_lt
      have HV := Aside0.mk (show (b0.toNat : Int) + 256 * (b1.toNat : Int) = bD s i by unfold bD; omega)
      obtain ⟨wx, wy, w0, w1, w2, w3, v0, v1, v2, v3⟩ := of_wraps i b0.toNat b1.toNat h15 (by omega) (by omega)
      have q0 : (2 * (i : Int) < (s.size : Int)) = True := eq_true (by omega)
      have q1 : (2 * (i : Int) + 1 < (s.size : Int)) = True := eq_true (by omega)
      have t0 := toNat2 i
      have t1 := toNat21 i
      clear hb hr hr2 hs hv0 hv1 l0 l1
      go_wp2_with fail
      go_region
      all_goals go_wp2_with fail
      refine ⟨⟨i + 1, by omega, rfl, (yJ HB.out _ _ (by simp)).drew, ?_, HR2.out.other _ _ (show w.heap.size ≠ w.heap.size + 1 by omega)⟩, meas_up 16 i (by omega)⟩
      rw [HV.out]
      exact row_eq (HR.out.set i (bD s i) (by omega)) (fun j hj => by
        unfold upd
        by_cases hji : j = i
        · subst hji; rw [if_pos rfl, if_pos (by omega)]
        · rw [if_neg hji]
          show (if j < i then bD s j else 0) = _
          by_cases hjl : j < i
          · rw [if_pos hjl, if_pos (by omega)]
          · rw [if_neg hjl, if_neg (by omega)])
    · obtain rfl : i = 16 := by omega
      clear hb hr hr2 hs hlt1 hlt2
      go_wp2_with (first | refine zX HR.out Tryd.underlying50 info33 rfl rfl rfl rfl ?_ | refine step_store _ HR2.out info33 rfl rfl rfl rfl rfl ?_)
      refine bodyPost_ret (zY rfl (HR2.out.all) rfl Tryd.underlying50 rfl info33) rfl ?_
      exact ⟨by rw [FR_congr .i64 16 _ (bD s) (fun j hj => if_pos hj)], yG (by omega) _ _ _ HB.out⟩
attribute [local go_sem] setCell_drewN
def belowN (f : Nat → Int) : Nat → Bool
  | 0 => false
  | i + 1 => if f i = pD i then belowN f i else decide (f i < pD i)
theorem pD_b (i : Nat) : 0 ≤ pD i ∧ pD i ≤ 65535 := by
  unfold pD; split <;> (try split) <;> omega
def BRel (f : Nat → Int) (w : World) (v4 : Value) (gp : Nat) (wr : World) : Prop :=
  ∃ (i : Nat), i ≤ 16 ∧ v4 = .int .i64 ((i : Int) - 1) ∧ belowN f i = belowN f 16 ∧ Below w.heap.size w wr ∧ Row wr w.heap.size .i64 16 f 50 ∧ Row wr gp .i64 16 pD 50
theorem below_calls (f : Nat → Int) (w : World) :
    Calls Tryd.prog 90 #[.agg (FR .i64 16 f)] w fun e w' => e = .returned (.bool (belowN f 16)) ∧ Below w.heap.size w w' := by
  go_enter Tryd.func90, Tryd.ntmps90
  go_wp2_with fail
  refine (P_calls _).mono ?_
  rintro e w1 ⟨rfl, hb⟩
  have hr := Row.below (Row.new w .i64 16 f 50) hb (by simp)
  have HR := Aside0.mk hr
  have hb2 := (Below.refl w.heap.size w).alloc (Nat.le_refl _) (.cells (FR .i64 16 f) 50)
  have HB := Aside0.mk (hb2.trans (hb.mono (by simp)))
  have hlt := hr.lt
  clear hb hb2 hr
  have HN := Aside0.mk (Row.new w1 .i64 16 (fun _ => 0) 50)
  go_wp2_with (refine step_store pD HN.out info33 rfl rfl rfl rfl rfl ?_)
  have HB2 := Aside0.mk (yG (show w.heap.size ≤ w1.heap.size by omega) (FR .i64 16 pD).toList 0 _ (HB.out.alloc (by omega) (.cells (FR .i64 16 fun _ => 0) 50)))
  have HR2 := Aside0.mk ((HR.out.alloc (.cells (FR .i64 16 fun _ => 0) 50)).cells_other (FR .i64 16 pD).toList (show w.heap.size ≠ w1.heap.size by omega))
  have HP := Aside0.mk (HN.out.all (f' := pD))
  go_loopw [4, 2] (fun v4 v2 wr => v2 = .bool false ∧ BRel f w v4 w1.heap.size wr) (fun v _ _ => ((intOf v) + 1).toNat)
  case atStart => exact ⟨rfl, 16, by omega, rfl, rfl, HB2.out, HR2.out, HP.out⟩
  case round =>
    obtain ⟨rfl, i, hi, rfl, he, hb, hr, hp⟩ := hrel
    have HB3 := Aside0.mk hb
    have HE := Aside0.mk he
    have HR3 := Aside0.mk hr
    have HP3 := Aside0.mk hp
    rcases Nat.lt_or_ge 0 i with h15 | h15
    · obtain ⟨j, rfl⟩ : ∃ j, i = j + 1 := ⟨i - 1, by omega⟩
      have e1 : ((j + 1 : Nat) : Int) - 1 = (j : Int) := by omega
      rw [e1]
      have hge : ((j : Int) ≥ 0) = True := eq_true (by omega)
      have hlt : ((j : Int) < 16) = True := eq_true (by omega)
      have k0 := hr.cell j (by omega)
      have k1 := hp.cell j (by omega)
      clear hb hr hp he
      by_cases hq : f j = pD j
      · have HQ := Aside0.mk hq
        have hd : (f j != pD j) = false := by simp [hq]
        have hd2 : (f j = pD j) = True := eq_true hq
        clear hq
        go_wp2_with fail
        go_region
        all_goals go_wp2_with fail
        refine ⟨⟨rfl, j, by omega, rfl, ?_, HB3.out.drew, HR3.out, HP3.out⟩, by simp only [intOf]; omega⟩
        rw [← HE.out]; show _ = if f j = pD j then belowN f j else _
        rw [if_pos HQ.out]
      · have HQ := Aside0.mk hq
        have hd : (f j != pD j) = true := by simp [hq]
        have hd2 : (f j = pD j) = False := eq_false hq
        clear hq
        go_wp2_with fail
        go_region
        all_goals go_wp2_with fail
        go_region
        all_goals go_wp2_with fail
        go_ret
        refine ⟨?_, HB3.out.drew.drew⟩
        rw [← HE.out]; show _ = Ending.returned (Value.bool (if f j = pD j then belowN f j else _))
        rw [if_neg HQ.out]; rfl
    · obtain rfl : i = 0 := by omega
      clear hb hr hp he
      go_wp2_with fail
      go_ret
      refine ⟨?_, HB3.out⟩
      rw [← HE.out]; rfl
attribute [local go_sem] setCell_drewN
def CB0 (f : Nat → Int) : Prop := ∀ j, j < 16 → - 1125899906842624 ≤ f j ∧ f j ≤ 1125899906842624
theorem small_ref_calls (n : Int) (w : World) (hn : 0 ≤ n ∧ n < 4294967296) :
    Calls Tryd.prog 59 #[.int .i64 n] w fun e w' => e = .returned (.agg (FR .i64 16 (zM (fun i => if i = 0 then n else 0) 16))) ∧ Below w.heap.size w w' := by
  have HN := Aside0.mk hn
  clear hn
  go_enter Tryd.func59, Tryd.ntmps59
  go_wp2_with fail
  have e : (#[.int .i64 n, .int .i64 0, .int .i64 0, .int .i64 0, .int .i64 0, .int .i64 0, .int .i64 0, .int .i64 0, .int .i64 0, .int .i64 0, .int .i64 0, .int .i64 0, .int .i64 0, .int .i64 0, .int .i64 0, .int .i64 0] : Array Value) = FR .i64 16 (fun i => if i = 0 then n else 0) := by rfl
  rw [e]
  refine (carry_calls _ _ (fun j hj => by have := HN.out; split <;> omega)).mono ?_
  rintro e w1 ⟨rfl, hb⟩
  have hr : Row w1 w.heap.size .i64 16 (fun _ => 0) 50 := (Row.new w .i64 16 (fun _ => 0) 50).below hb (by simp)
  have HR := Aside0.mk hr
  have HB := Aside0.mk (((Below.refl w.heap.size w).alloc (Nat.le_refl _) (.cells (FR .i64 16 fun _ => 0) 50)).trans (hb.mono (by simp)))
  have hlt := hr.lt
  clear hb hr e
  go_wp2_with (refine step_store _ HR.out info33 rfl rfl rfl rfl rfl ?_)
  refine bodyPost_ret (zY rfl (HR.out.all) rfl Tryd.underlying50 rfl info33) rfl ?_
  exact ⟨rfl, yG (by omega) _ _ _ HB.out⟩
def addRRel (f g : Nat → Int) (w : World) (v5 : Value) (wr : World) : Prop :=
  ∃ (i : Nat), i ≤ 16 ∧ v5 = .int .i64 (i : Int) ∧ Below w.heap.size w wr ∧ Row wr w.heap.size .i64 16 (fun j => if j < i then f j + g j else f j) 50 ∧ Row wr (w.heap.size + 1) .i64 16 g 50 ∧ Row wr (w.heap.size + 1 + 1) .i64 16 (fun _ => 0) 50
theorem addR_calls (f g : Nat → Int) (w : World) (hf : CB0 f) (hg : CB0 g) :
    Calls Tryd.prog 61 #[.agg (FR .i64 16 f), .agg (FR .i64 16 g)] w fun e w' => e = .returned (.agg (FR .i64 16 (zM (fun i => f i + g i) 16))) ∧ Below w.heap.size w w' := by
  have HF := Aside0.mk hf
  have HG := Aside0.mk hg
  clear hf hg
  go_enter Tryd.func61, Tryd.ntmps61
  go_wp2_with fail
  go_loopw [5] (fun v5 wr => addRRel f g w v5 wr) (fun v _ => 16 - (intOf v).toNat)
  case atStart => exact ⟨0, by omega, rfl, bel_three w _ _ _, ((Row.new w .i64 16 f 50).alloc _).alloc _, Row.alloc (heap_alloc2_new w _ _) _, three_new w _ _ _⟩
  case round =>
    obtain ⟨i, hi, rfl, hb, hr, hg, h0⟩ := hrel
    have HB := Aside0.mk hb
    have HR := Aside0.mk hr
    have HR2 := Aside0.mk hg
    have HR3 := Aside0.mk h0
    have hlt1 := hr.lt
    have hlt2 := hg.lt
    have hlt3 := h0.lt
    rcases Nat.lt_or_ge i 16 with h15 | h15
    · have hlt : ((i : Int) < 16) = True := eq_true (by omega)
      have f0 := hr.fro i
      have k0 := hr.cell i (by omega)
      have e0 : (if i < i then f i + g i else f i) = f i := if_neg (by omega)
      have k1 := hg.cell i (by omega)
      rw [e0] at k0
      have b0 := HF.out i (by omega)
      have b1 := HG.out i (by omega)
      have w0 : wrap64 (f i + g i) = f i + g i := w64 _ (by omega)
      clear hb hr hg h0 e0 b0 b1
      go_wp2_with fail
      go_region
      all_goals go_wp2_with fail
      refine ⟨⟨i + 1, by omega, rfl, (yJ HB.out _ _ (by simp)).drew, ?_, HR2.out.other _ _ (show w.heap.size + 1 ≠ w.heap.size by omega), HR3.out.other _ _ (show w.heap.size + 1 + 1 ≠ w.heap.size by omega)⟩, meas_up 16 i (by omega)⟩
      exact part_step (F := fun j => f j + g j) (a := ⟨0, 0, none⟩) HR.out (by omega)
    · obtain rfl : i = 16 := by omega
      have HR1 := Aside0.mk (row_eq HR.out (f' := fun j => f j + g j) (fun j hj => if_pos hj))
      clear hb hr hg h0 HR
      go_wp2_with (refine zX HR1.out Tryd.underlying50 info33 rfl rfl rfl rfl ?_)
      refine (carry_calls _ _ (fun j hj => by have := HF.out j hj; have := HG.out j hj; omega)).mono ?_
      rintro e w1 ⟨rfl, hb⟩
      have HR4 := Aside0.mk (HR3.out.below hb (by omega))
      have HB4 := Aside0.mk (HB.out.trans (hb.mono (by omega)))
      have hlt4 := HR4.out.lt
      clear hb
      go_wp2_with (refine step_store _ HR4.out info33 rfl rfl rfl rfl rfl ?_)
      refine bodyPost_ret (zY rfl (HR4.out.all) rfl Tryd.underlying50 rfl info33) rfl ?_
      exact ⟨rfl, yG (by omega) _ _ _ HB4.out⟩
def subRRel (f g : Nat → Int) (w : World) (v5 : Value) (wr : World) : Prop :=
  ∃ (i : Nat), i ≤ 16 ∧ v5 = .int .i64 (i : Int) ∧ Below w.heap.size w wr ∧ Row wr w.heap.size .i64 16 (fun j => if j < i then f j - g j else f j) 50 ∧ Row wr (w.heap.size + 1) .i64 16 g 50 ∧ Row wr (w.heap.size + 1 + 1) .i64 16 (fun _ => 0) 50
theorem subR_calls (f g : Nat → Int) (w : World) (hf : CB0 f) (hg : CB0 g) :
    Calls Tryd.prog 60 #[.agg (FR .i64 16 f), .agg (FR .i64 16 g)] w fun e w' => e = .returned (.agg (FR .i64 16 (zM (fun i => f i - g i) 16))) ∧ Below w.heap.size w w' := by
  have HF := Aside0.mk hf
  have HG := Aside0.mk hg
  clear hf hg
  go_enter Tryd.func60, Tryd.ntmps60
  go_wp2_with fail
  go_loopw [5] (fun v5 wr => subRRel f g w v5 wr) (fun v _ => 16 - (intOf v).toNat)
  case atStart => exact ⟨0, by omega, rfl, bel_three w _ _ _, ((Row.new w .i64 16 f 50).alloc _).alloc _, Row.alloc (heap_alloc2_new w _ _) _, three_new w _ _ _⟩
  case round =>
    obtain ⟨i, hi, rfl, hb, hr, hg, h0⟩ := hrel
    have HB := Aside0.mk hb
    have HR := Aside0.mk hr
    have HR2 := Aside0.mk hg
    have HR3 := Aside0.mk h0
    have hlt1 := hr.lt
    have hlt2 := hg.lt
    have hlt3 := h0.lt
    rcases Nat.lt_or_ge i 16 with h15 | h15
    · have hlt : ((i : Int) < 16) = True := eq_true (by omega)
      have f0 := hr.fro i
      have k0 := hr.cell i (by omega)
      have e0 : (if i < i then f i - g i else f i) = f i := if_neg (by omega)
      have k1 := hg.cell i (by omega)
      rw [e0] at k0
      have b0 := HF.out i (by omega)
      have b1 := HG.out i (by omega)
      have w0 : wrap64 (f i - g i) = f i - g i := w64 _ (by omega)
      clear hb hr hg h0 e0 b0 b1
      go_wp2_with fail
      go_region
      all_goals go_wp2_with fail
      refine ⟨⟨i + 1, by omega, rfl, (yJ HB.out _ _ (by simp)).drew, ?_, HR2.out.other _ _ (show w.heap.size + 1 ≠ w.heap.size by omega), HR3.out.other _ _ (show w.heap.size + 1 + 1 ≠ w.heap.size by omega)⟩, meas_up 16 i (by omega)⟩
      exact part_step (F := fun j => f j - g j) (a := ⟨0, 0, none⟩) HR.out (by omega)
    · obtain rfl : i = 16 := by omega
      have HR1 := Aside0.mk (row_eq HR.out (f' := fun j => f j - g j) (fun j hj => if_pos hj))
      clear hb hr hg h0 HR
      go_wp2_with (refine zX HR1.out Tryd.underlying50 info33 rfl rfl rfl rfl ?_)
      refine (carry_calls _ _ (fun j hj => by have := HF.out j hj; have := HG.out j hj; omega)).mono ?_
      rintro e w1 ⟨rfl, hb⟩
      have HR4 := Aside0.mk (HR3.out.below hb (by omega))
      have HB4 := Aside0.mk (HB.out.trans (hb.mono (by omega)))
      have hlt4 := HR4.out.lt
      clear hb
      go_wp2_with (refine step_store _ HR4.out info33 rfl rfl rfl rfl rfl ?_)
      refine bodyPost_ret (zY rfl (HR4.out.all) rfl Tryd.underlying50 rfl info33) rfl ?_
      exact ⟨rfl, yG (by omega) _ _ _ HB4.out⟩
theorem carryN_eq (f : Nat → Int) : ∀ i, i ≤ 15 → ∀ j, zM f i j = if j < i then (f j + cy 65536 f j) % 65536 else if j = i then f j + cy 65536 f j else f j
  | 0, _, j => by
    rw [if_neg (by omega)]
    show f j = _
    split
    · rename_i h; subst h; simp [cy]
    · rfl
  | i + 1, hi, j => by
    have ih := carryN_eq f i (by omega)
    have e : zM f (i + 1) = upd (upd (zM f i) i (zM f i i - zM f i i / 65536 * 65536)) (i + 1) (zM f i (i + 1) + zM f i i / 65536) := by
      show cstep (zM f i) i = _
      unfold cstep; rw [if_pos (by omega)]
    have e1 : zM f i i = f i + cy 65536 f i := by rw [ih i, if_neg (by omega), if_pos rfl]
    have e2 : zM f i (i + 1) = f (i + 1) := by rw [ih (i + 1), if_neg (by omega), if_neg (by omega)]
    rw [e, e1, e2]
    by_cases h1 : j = i + 1
    · subst h1
      rw [upd_same, if_neg (by omega), if_pos rfl]; rfl
    · rw [upd_other _ _ _ _ h1]
      by_cases h2 : j = i
      · subst h2
        rw [upd_same, if_pos (by omega)]; omega
      · rw [upd_other _ _ _ _ h2, ih j]
        by_cases h3 : j < i
        · rw [if_pos h3, if_pos (by omega)]
        · rw [if_neg h3, if_neg h2, if_neg (by omega), if_neg h1]
theorem carry16 (f : Nat → Int) (j : Nat) (hj : j < 16) : zM f 16 j = (f j + cy 65536 f j) % 65536 + (if j = 0 then 38 * cy 65536 f 16 else 0) := by
  have ih := carryN_eq f 15 (by omega)
  have e : zM f 16 = upd (upd (zM f 15) 15 (zM f 15 15 - zM f 15 15 / 65536 * 65536)) 0 (zM f 15 0 + 38 * (zM f 15 15 / 65536)) := rfl
  have e1 : zM f 15 15 = f 15 + cy 65536 f 15 := by rw [ih 15, if_neg (by omega), if_pos rfl]
  have e2 : zM f 15 0 = (f 0 + cy 65536 f 0) % 65536 := by rw [ih 0, if_pos (by omega)]
  have e3 : cy 65536 f 16 = (f 15 + cy 65536 f 15) / 65536 := rfl
  rw [e, e1, e2, e3]
  by_cases h0 : j = 0
  · subst h0; rw [upd_same, if_pos rfl]
  · rw [upd_other _ _ _ _ h0, if_neg h0]
    by_cases h1 : j = 15
    · subst h1; rw [upd_same]; omega
    · rw [upd_other _ _ _ _ h1, ih j, if_pos (by omega)]; omega
def V16 (f : Nat → Int) : Int := val 65536 f 16
theorem V16_eq (f : Nat → Int) : V16 f = f 0 + f 1 * 65536 ^ 1 + f 2 * 65536 ^ 2 + f 3 * 65536 ^ 3 + f 4 * 65536 ^ 4 + f 5 * 65536 ^ 5 + f 6 * 65536 ^ 6 + f 7 * 65536 ^ 7 + f 8 * 65536 ^ 8 + f 9 * 65536 ^ 9 + f 10 * 65536 ^ 10 + f 11 * 65536 ^ 11 + f 12 * 65536 ^ 12 + f 13 * 65536 ^ 13 + f 14 * 65536 ^ 14 + f 15 * 65536 ^ 15 := by
  simp [V16, val]
def QQ : Int := 115792089237316195423570985008687907853269984665640564039457584007913129639936
def PP : Int := 57896044618658097711785492504343953926634992332820282019728792003956564819949
theorem QQ_pow : (65536 : Int) ^ 16 = QQ := by decide
theorem QQ_PP : QQ = 2 * PP + 38 := by decide
theorem V16_carry (f : Nat → Int) : V16 (zM f 16) = V16 f % QQ + 38 * (V16 f / QQ) := by
  have h := cy_div 65536 (by omega) f 16
  unfold V16
  rw [val_congr 65536 _ _ 16 (fun i hi => carry16 f i hi), val_add 65536 (fun j => (f j + cy 65536 f j) % 65536) (fun j => if j = 0 then 38 * cy 65536 f 16 else 0), h.2, h.1, QQ_pow]
  congr 1
  simp [val]
theorem V16_carry_mod (f : Nat → Int) : V16 (zM f 16) % PP = V16 f % PP := by
  rw [V16_carry]
  generalize V16 f = x
  have h := Int.emod_add_mul_ediv x QQ
  have e : x = (x % QQ + 38 * (x / QQ)) + PP * (2 * (x / QQ)) := by
    conv => lhs; rw [← h]
    rw [QQ_PP]; grind
  conv => rhs; rw [e]
  rw [Int.add_mul_emod_self_left]
theorem V16_b (f : Nat → Int) (hf : CB f) : -68719476736 * QQ ≤ V16 f ∧ V16 f ≤ 68719476736 * QQ := by
  rw [V16_eq]
  have h0 := hf 0 (by omega); have h1 := hf 1 (by omega); have h2 := hf 2 (by omega); have h3 := hf 3 (by omega)
  have h4 := hf 4 (by omega); have h5 := hf 5 (by omega); have h6 := hf 6 (by omega); have h7 := hf 7 (by omega)
  have h8 := hf 8 (by omega); have h9 := hf 9 (by omega); have h10 := hf 10 (by omega); have h11 := hf 11 (by omega)
  have h12 := hf 12 (by omega); have h13 := hf 13 (by omega); have h14 := hf 14 (by omega); have h15 := hf 15 (by omega)
  unfold QQ
  omega
def CB1 (f : Nat → Int) : Prop := (∀ j, j < 16 → j ≠ 0 → 0 ≤ f j ∧ f j < 65536) ∧ (-4398046511104 ≤ f 0 ∧ f 0 ≤ 4398046511104)
theorem CB1.cb {f : Nat → Int} (h : CB1 f) : CB f := fun j hj => by
  by_cases h0 : j = 0
  · subst h0; have := h.2; omega
  · have := h.1 j hj h0; omega
theorem carry_digits (f : Nat → Int) (j : Nat) (hj : j < 16) (h0 : j ≠ 0) : 0 ≤ zM f 16 j ∧ zM f 16 j < 65536 := by
  rw [carry16 f j hj, if_neg h0]; omega
theorem carry_zero (f : Nat → Int) : zM f 16 0 = f 0 % 65536 + 38 * (V16 f / QQ) := by
  have h := (cy_div 65536 (by omega) f 16).1
  rw [QQ_pow] at h
  rw [carry16 f 0 (by omega), if_pos rfl, h]
  show (f 0 + 0) % 65536 + 38 * (V16 f / QQ) = _
  rw [Int.add_zero]
theorem carry_CB1 (f : Nat → Int) (hf : CB f) : CB1 (zM f 16) := by
  refine ⟨carry_digits f, ?_⟩
  have h := V16_b f hf
  rw [carry_zero]
  generalize V16 f = x at *
  unfold QQ at *
  omega
theorem V16_b1 (f : Nat → Int) (hf : CB1 f) : -4398046511104 ≤ V16 f ∧ V16 f ≤ QQ + 4398046511104 := by
  rw [V16_eq]
  have h0 := hf.2
  have h1 := hf.1 1 (by omega) (by omega); have h2 := hf.1 2 (by omega) (by omega); have h3 := hf.1 3 (by omega) (by omega)
  have h4 := hf.1 4 (by omega) (by omega); have h5 := hf.1 5 (by omega) (by omega); have h6 := hf.1 6 (by omega) (by omega); have h7 := hf.1 7 (by omega) (by omega)
  have h8 := hf.1 8 (by omega) (by omega); have h9 := hf.1 9 (by omega) (by omega); have h10 := hf.1 10 (by omega) (by omega); have h11 := hf.1 11 (by omega) (by omega)
  have h12 := hf.1 12 (by omega) (by omega); have h13 := hf.1 13 (by omega) (by omega); have h14 := hf.1 14 (by omega) (by omega); have h15 := hf.1 15 (by omega) (by omega)
  unfold QQ
  omega
theorem carry2_V (f : Nat → Int) (hf : CB1 f) : 0 ≤ V16 (zM f 16) ∧ V16 (zM f 16) < QQ := by
  have h := V16_b1 f hf
  rw [V16_carry]
  generalize V16 f = x at *
  unfold QQ at *
  omega
theorem carry3_digits (f : Nat → Int) (h : 0 ≤ V16 f ∧ V16 f < QQ) (j : Nat) (hj : j < 16) : 0 ≤ zM f 16 j ∧ zM f 16 j < 65536 := by
  by_cases h0 : j = 0
  · subst h0
    rw [carry_zero, Int.ediv_eq_zero_of_lt h.1 h.2]; omega
  · exact carry_digits f j hj h0
theorem carry_thrice (f : Nat → Int) (hf : CB f) :
    CB (zM f 16) ∧ CB (zM (zM f 16) 16) ∧ (∀ j, j < 16 → 0 ≤ zM (zM (zM f 16) 16) 16 j ∧ zM (zM (zM f 16) 16) 16 j < 65536) ∧ V16 (zM (zM (zM f 16) 16) 16) % PP = V16 f % PP := by
  have h1 := carry_CB1 f hf
  have h2 := carry_CB1 _ h1.cb
  have h3 := carry2_V _ h1
  exact ⟨h1.cb, h2.cb, carry3_digits _ h3, by rw [V16_carry_mod, V16_carry_mod, V16_carry_mod]⟩
theorem V16_pD : V16 pD = PP := by decide
theorem belowN_val (f : Nat → Int) : ∀ n, (∀ j, j < n → 0 ≤ f j ∧ f j < 65536) → belowN f n = decide (val 65536 f n < val 65536 pD n)
  | 0, _ => by simp [belowN, val]
  | n + 1, h => by
    have ih := belowN_val f n (fun j hj => h j (by omega))
    have b1 := val_b 65536 (by omega) f n (fun j hj => h j (by omega))
    have b2 := val_b 65536 (by omega) pD n (fun j hj => by have := pD_b j; omega)
    have hp := pow_pos' 65536 (by omega) n
    rw [belowN, val, val]
    by_cases he : f n = pD n
    · rw [if_pos he, ih, he]
      congr 1
      apply propext
      omega
    · rw [if_neg he]
      congr 1
      apply propext
      constructor
      · intro hl
        have : (f n + 1) * 65536 ^ n ≤ pD n * 65536 ^ n := Int.mul_le_mul_of_nonneg_right (by omega) (by omega)
        have e : (f n + 1) * (65536 : Int) ^ n = f n * 65536 ^ n + 65536 ^ n := by grind
        omega
      · intro hl
        rcases Int.lt_or_gt_of_ne he with hlt | hgt
        · exact hlt
        · exfalso
          have : (pD n + 1) * 65536 ^ n ≤ f n * 65536 ^ n := Int.mul_le_mul_of_nonneg_right (by omega) (by omega)
          have e : (pD n + 1) * (65536 : Int) ^ n = pD n * 65536 ^ n + 65536 ^ n := by grind
          omega
theorem belowN16 (f : Nat → Int) (h : ∀ j, j < 16 → 0 ≤ f j ∧ f j < 65536) : belowN f 16 = decide (V16 f < PP) := by
  rw [belowN_val f 16 h]; rw [← V16_pD]; rfl
def lessD (f : Nat → Int) (i : Nat) : Int := (f i - pD i + cy 65536 (fun j => f j - pD j) i) % 65536
theorem lessD_V (f : Nat → Int) (h : ∀ j, j < 16 → 0 ≤ f j ∧ f j < 65536) (hb : belowN f 16 = false) : V16 (lessD f) = V16 f - PP ∧ (∀ j, j < 16 → 0 ≤ lessD f j ∧ lessD f j < 65536) := by
  have e := belowN16 f h
  rw [hb] at e
  have hge : PP ≤ V16 f := by simpa using e
  have hlt := (val_b 65536 (by omega) f 16 h).2
  have h2 := (cy_div 65536 (by omega) (fun j => f j - pD j) 16).2
  refine ⟨?_, fun j hj => ⟨Int.emod_nonneg _ (by omega), Int.emod_lt_of_pos _ (by omega)⟩⟩
  show val 65536 (fun i => (f i - pD i + cy 65536 (fun j => f j - pD j) i) % 65536) 16 = _
  rw [h2, val_sub, QQ_pow]
  show (V16 f - V16 pD) % QQ = _
  rw [V16_pD]
  rw [QQ_pow] at hlt
  have hlt' : V16 f < QQ := hlt
  exact Int.emod_eq_of_lt (by omega) (by unfold PP QQ at *; omega)
attribute [local go_sem] setCell_drewN
def rowNat (w : World) (g : Nat) : Nat := match w.heap[g]? with
  | some (.cells cs _ _) => (V16 (fun i => match cs[i]? with | some v => intOf v | none => 0)).toNat
  | _ => 0
theorem rowNat_of {w : World} {g : Nat} {f : Nat → Int} {t : TypeId} (h : Row w g .i64 16 f t) : rowNat w g = (V16 f).toNat := by
  unfold rowNat
  rw [h]
  have e : V16 (fun i => match (FR .i64 16 f)[i]? with | some v => intOf v | none => 0) = V16 f := val_congr 65536 _ _ 16 (fun i hi => by show (match (FR .i64 16 f)[i]? with | some v => intOf v | none => 0) = _; rw [FR_at _ _ _ _ hi]; rfl)
  show (V16 (fun i => match (FR .i64 16 f)[i]? with | some v => intOf v | none => 0)).toNat = _
  rw [e]
def D16 (f : Nat → Int) : Prop := ∀ j, j < 16 → 0 ≤ f j ∧ f j < 65536
theorem least_end (f f' : Nat → Int) (hd : D16 f') (hv : V16 f' % PP = V16 f % PP) (hb : belowN f' 16 = true) : FR .i64 16 f' = FR .i64 16 (dig 65536 (V16 f % PP)) := by
  apply FR_congr
  intro i hi
  rw [belowN16 f' hd] at hb
  have h1 : V16 f' < PP := by simpa using hb
  have h2 : 0 ≤ V16 f' := (val_b 65536 (by omega) f' 16 hd).1
  rw [dig_val 65536 (by omega) f' 16 hd i hi]
  have e : V16 f' = V16 f % PP := by rw [← hv, Int.emod_eq_of_lt h2 h1]
  show dig 65536 (V16 f') i = _
  rw [e]
theorem less_mod (f f' : Nat → Int) (hv : V16 f' % PP = V16 f % PP) (h : V16 (lessD f') = V16 f' - PP) : V16 (lessD f') % PP = V16 f % PP := by
  rw [h, ← hv]; exact Int.sub_emod_right _ _
theorem less_row (f' : Nat → Int) (i : Nat) (h : D16 f') (hi : i < 16) : lessD f' i = f' i - pD i + cy 65536 (fun j => f' j - pD j) i - (f' i - pD i + cy 65536 (fun j => f' j - pD j) i) / 65536 * 65536 := by
  unfold lessD; omega
def LRel1 (w : World) (f : Nat → Int) (wr : World) : Prop :=
  ∃ f', D16 f' ∧ V16 f' % PP = V16 f % PP ∧ Below w.heap.size w wr ∧ Row wr w.heap.size .i64 16 f' 50 ∧ Row wr (w.heap.size + 1) .i64 16 (fun _ => 0) 50
def LRel2 (w : World) (f' : Nat → Int) (gp : Nat) (v5 v4 : Value) (wr : World) : Prop :=
  ∃ i : Nat, i ≤ 16 ∧ v5 = .int .i64 (i : Int) ∧ v4 = .int .i64 (cy 65536 (fun j => f' j - pD j) i) ∧ Below w.heap.size w wr ∧ Row wr w.heap.size .i64 16 (fun j => if j < i then lessD f' j else f' j) 50 ∧ Row wr (w.heap.size + 1) .i64 16 (fun _ => 0) 50 ∧ Row wr gp .i64 16 pD 50
theorem cy_b (f' : Nat → Int) (h : D16 f') : ∀ i, i ≤ 16 → -1 ≤ cy 65536 (fun j => f' j - pD j) i ∧ cy 65536 (fun j => f' j - pD j) i ≤ 0
  | 0, _ => by simp [cy]
  | i + 1, hi => by
    have ih := cy_b f' h i (by omega)
    have h1 := h i (by omega)
    have h2 := pD_b i
    show -1 ≤ (f' i - pD i + cy 65536 (fun j => f' j - pD j) i) / 65536 ∧ _
    have e : cy 65536 (fun j => f' j - pD j) (i + 1) = (f' i - pD i + cy 65536 (fun j => f' j - pD j) i) / 65536 := rfl
    rw [e]
    omega
theorem least_calls (f : Nat → Int) (w : World) (hf : CB f) :
    Calls Tryd.prog 78 #[.agg (FR .i64 16 f)] w fun e w' => e = .returned (.agg (FR .i64 16 (dig 65536 (V16 f % PP)))) ∧ Below w.heap.size w w' := by
  have HF := Aside0.mk (carry_thrice f hf)
  have HF0 := Aside0.mk hf
  clear hf
  go_enter Tryd.func78, Tryd.ntmps78
  have HR0 := Aside0.mk ((Row.new w .i64 16 f 50).alloc (.cells (FR .i64 16 fun _ => 0) 50))
  have HZ0 : Aside0 (Row ((w.alloc (.cells (FR .i64 16 f) 50)).alloc (.cells (FR .i64 16 fun _ => 0) 50)) (w.heap.size + 1) .i64 16 (fun _ => 0) 50) := Aside0.mk (heap_alloc2_new w _ _)
  have HB0 := Aside0.mk (bel_two w (.cells (FR .i64 16 f) 50) (.cells (FR .i64 16 fun _ => 0) 50))
  go_wp2_with (refine zX HR0.out Tryd.underlying50 info33 rfl rfl rfl rfl ?_)
  refine (carry_calls _ _ HF0.out).mono ?_
  rintro e w1 ⟨rfl, hb⟩
  have HR1 := Aside0.mk (HR0.out.below hb HR0.out.lt)
  have HZ1 := Aside0.mk (HZ0.out.below hb HZ0.out.lt)
  have HB1 := Aside0.mk (HB0.out.trans (hb.mono (by simp; omega)))
  clear hb HR0 HZ0 HB0
  go_wp2_with fail
  refine (carry_calls _ _ HF.out.1).mono ?_
  rintro e w2 ⟨rfl, hb⟩
  have HR2 := Aside0.mk (HR1.out.below hb HR1.out.lt)
  have HZ2 := Aside0.mk (HZ1.out.below hb HZ1.out.lt)
  have HB2 := Aside0.mk (HB1.out.trans (hb.mono (by have := HZ1.out.lt; omega)))
  clear hb HR1 HZ1 HB1
  go_wp2_with fail
  refine (carry_calls _ _ HF.out.2.1).mono ?_
  rintro e w3 ⟨rfl, hb⟩
  have HR3 := Aside0.mk (HR2.out.below hb HR2.out.lt)
  have HZ3 := Aside0.mk (HZ2.out.below hb HZ2.out.lt)
  have HB3 := Aside0.mk (HB2.out.trans (hb.mono (by have := HZ2.out.lt; omega)))
  clear hb HR2 HZ2 HB2
  go_wp2_with (refine step_store _ HR3.out info33 rfl rfl rfl rfl rfl ?_)
  go_loopw [11] (fun _ wr => LRel1 w f wr) (fun _ wr => rowNat wr w.heap.size)
  case atStart => exact ⟨_, HF.out.2.2.1, HF.out.2.2.2, yG (Nat.le_refl _) _ _ _ HB3.out, HR3.out.all, HZ3.out.cells_other _ (by omega)⟩
  case round =>
    obtain ⟨f', hd, hv, hb, hr, hz⟩ := hrel
    have HD := Aside0.mk hd
    have HV := Aside0.mk hv
    have HB := Aside0.mk hb
    have HR := Aside0.mk hr
    have HZ := Aside0.mk hz
    have hl1 := hr.lt
    have hl2 := hz.lt
    clear hd hv hb hr hz HB3 HR3 HZ3
    go_wp2_with (refine zX HR.out Tryd.underlying50 info33 rfl rfl rfl rfl ?_)
    refine (below_calls _ _).mono ?_
    rintro e w4 ⟨rfl, hb⟩
    have HR4 := Aside0.mk (HR.out.below hb hl1)
    have HZ4 := Aside0.mk (HZ.out.below hb hl2)
    have HB4 := Aside0.mk (HB.out.trans (hb.mono (by omega)))
    have hl3 := HR4.out.lt
    have hl4 := HZ4.out.lt
    clear hb
    cases hbl : belowN f' 16
    · have HBL := Aside0.mk hbl
      clear hbl
      go_wp2_with fail
      refine (P_calls _).mono ?_
      rintro e w5 ⟨rfl, hb⟩
      have HR5 := Aside0.mk (HR4.out.below hb hl3)
      have HZ5 := Aside0.mk (HZ4.out.below hb hl4)
      have HB5 := Aside0.mk (HB4.out.trans (hb.mono (by omega)))
      have hl5 := HR5.out.lt
      have hl6 := HZ5.out.lt
      clear hb
      have HN := Aside0.mk (Row.new w5 .i64 16 (fun _ => 0) 50)
      go_wp2_with (refine step_store pD HN.out info33 rfl rfl rfl rfl rfl ?_)
      have HB6 := Aside0.mk (yG (show w.heap.size ≤ w5.heap.size by omega) (FR .i64 16 pD).toList 0 _ (HB5.out.alloc (by omega) (.cells (FR .i64 16 fun _ => 0) 50)))
      have HR6 := Aside0.mk ((HR5.out.alloc (.cells (FR .i64 16 fun _ => 0) 50)).cells_other (FR .i64 16 pD).toList (show w.heap.size ≠ w5.heap.size by omega))
      have HZ6 := Aside0.mk ((HZ5.out.alloc (.cells (FR .i64 16 fun _ => 0) 50)).cells_other (FR .i64 16 pD).toList (show w.heap.size + 1 ≠ w5.heap.size by omega))
      have HP := Aside0.mk (HN.out.all (f' := pD))
      have HL := Aside0.mk (lessD_V f' HD.out HBL.out)
      have HM := Aside0.mk (rowNat_of HR.out)
      have HPP := Aside0.mk (show PP ≤ V16 f' by
        have := HBL.out
        rw [belowN16 f' HD.out] at this
        simpa using this)
      clear HN HR HZ HB HR4 HZ4 HB4 HR5 HZ5 HB5
      go_wp2_with fail
      go_loopw [5, 4] (fun v5 v4 wr => LRel2 w f' w5.heap.size v5 v4 wr) (fun v _ _ => 16 - (intOf v).toNat)
      case atStart => exact ⟨0, by omega, rfl, rfl, HB6.out, row_eq HR6.out (fun j hj => (if_neg (by omega)).symm), HZ6.out, HP.out⟩
      case round =>
        obtain ⟨i, hi, rfl, rfl, hb, hr, hz, hp⟩ := hrel
        have HB7 := Aside0.mk hb
        have HR7 := Aside0.mk hr
        have HZ7 := Aside0.mk hz
        have HP7 := Aside0.mk hp
        rcases Nat.lt_or_ge i 16 with h15 | h15
        · have hlt : ((i : Int) < 16) = True := eq_true (by omega)
          have f0 := hr.fro i
          have k0 := hr.cell i (by omega)
          have e0 : (if i < i then lessD f' i else f' i) = f' i := if_neg (by omega)
          rw [e0] at k0
          have k1 := hp.cell i (by omega)
          have hc := cy_b f' HD.out i (by omega)
          have hd := HD.out i h15
          have hq := pD_b i
          have HX := Aside0.mk (less_row f' i HD.out h15)
          have HY := Aside0.mk (show cy 65536 (fun j => f' j - pD j) (i + 1) = (f' i - pD i + cy 65536 (fun j => f' j - pD j) i) / 65536 from rfl)
          generalize cy 65536 (fun j => f' j - pD j) i = c at *
          have w0 : wrap64 (f' i - pD i) = f' i - pD i := w64 _ (by omega)
          have w1' : wrap64 (f' i - pD i + c) = f' i - pD i + c := w64 _ (by omega)
          generalize hx : f' i - pD i + c = x at *
          have hxb : -65536 ≤ x ∧ x ≤ 65535 := by omega
          have w2' : wrap64 (x / 65536 * 65536) = x / 65536 * 65536 := w64 _ (by omega)
          have w3' : wrap64 (x - x / 65536 * 65536) = x - x / 65536 * 65536 := w64 _ (by omega)
          have hx' := hx
          clear hb hr hz hp e0 hc hd hq hxb hx
          go_wp2_with fail
          go_region
          all_goals go_wp2_with fail
          refine ⟨⟨i + 1, by omega, rfl, by rw [HY.out], (yJ HB7.out _ _ (Nat.le_refl _)).drew, ?_, HZ7.out.other _ _ (show w.heap.size + 1 ≠ w.heap.size by omega), HP7.out.other _ _ (show w5.heap.size ≠ w.heap.size by omega)⟩, meas_up 16 i (by omega)⟩
          rw [← HX.out]
          exact part_step (F := lessD f') (a := ⟨0, 0, none⟩) HR7.out (by omega)
        · obtain rfl : i = 16 := by omega
          clear hb hr hz hp
          go_wp2_with fail
          have HR8 := row_eq HR7.out (f' := lessD f') (fun j hj => if_pos hj)
          refine ⟨⟨lessD f', HL.out.2, less_mod f f' HV.out HL.out.1, HB7.out, HR8, HZ7.out⟩, ?_⟩
          rw [HM.out, rowNat_of HR8, HL.out.1]
          have := HPP.out
          unfold PP at *
          omega
    · have HBL := Aside0.mk hbl
      clear hbl
      go_wp2_with (first | refine zX HR4.out Tryd.underlying50 info33 rfl rfl rfl rfl ?_ | refine step_store _ HZ4.out info33 rfl rfl rfl rfl rfl ?_)
      refine bodyPost_ret (zY rfl (HZ4.out.all) rfl Tryd.underlying50 rfl info33) rfl ?_
      exact ⟨by rw [least_end f f' HD.out HV.out HBL.out], yG (by omega) _ _ _ HB4.out⟩
def lf (t : Int × Int × Int × Int × Int) : Nat → Int
  | 0 => t.1
  | 1 => t.2.1
  | 2 => t.2.2.1
  | 3 => t.2.2.2.1
  | _ => t.2.2.2.2
def carr (f : Nat → Int) : Nat → Int := lf (carriedZ (f 0) (f 1) (f 2) (f 3) (f 4))
theorem carr_calls (f : Nat → Int) (w : World) (h : ∀ i, i < 5 → 0 ≤ f i ∧ f i ≤ 9223372036854775808) :
    Calls Tryd.prog 72 #[.agg (FR .u64 5 f)] w fun e w' => e = .returned (.agg (FR .u64 5 (carr f))) ∧ Below w.heap.size w w' :=
  carried_calls (f 0) (f 1) (f 2) (f 3) (f 4) w (h 0 (by omega)) (h 1 (by omega)) (h 2 (by omega)) (h 3 (by omega)) (h 4 (by omega))
def V51 (f : Nat → Int) : Int := f 0 + f 1 * 2251799813685248 + f 2 * 5070602400912917605986812821504 + f 3 * 11417981541647679048466287755595961091061972992 + f 4 * 25711008708143844408671393477458601640355247900524685364822016
theorem V51_val (f : Nat → Int) : V51 f = val 2251799813685248 f 5 := by
  simp [V51, val]
theorem carr_eq (f : Nat → Int) : carr f 0 = (f 0 + 19 * (f 4 / 2251799813685248)) % 2251799813685248 ∧
    carr f 1 = (f 1 + (f 0 + 19 * (f 4 / 2251799813685248)) / 2251799813685248) % 2251799813685248 ∧
    carr f 2 = (f 2 + (f 1 + (f 0 + 19 * (f 4 / 2251799813685248)) / 2251799813685248) / 2251799813685248) % 2251799813685248 ∧
    carr f 3 = (f 3 + (f 2 + (f 1 + (f 0 + 19 * (f 4 / 2251799813685248)) / 2251799813685248) / 2251799813685248) / 2251799813685248) % 2251799813685248 ∧
    carr f 4 = f 4 % 2251799813685248 + (f 3 + (f 2 + (f 1 + (f 0 + 19 * (f 4 / 2251799813685248)) / 2251799813685248) / 2251799813685248) / 2251799813685248) / 2251799813685248 := ⟨rfl, rfl, rfl, rfl, rfl⟩
def Lm (f : Nat → Int) : Prop := (∀ i, i < 4 → 0 ≤ f i ∧ f i < 2251799813685248) ∧ 0 ≤ f 4 ∧ f 4 < 2251799813693440
theorem Lm.b {f : Nat → Int} (h : Lm f) (i : Nat) (hi : i < 5) : 0 ≤ f i ∧ f i < 4503599627370496 := by
  rcases Nat.lt_or_ge i 4 with h4 | h4
  · have := h.1 i h4; omega
  · obtain rfl : i = 4 := by omega
    have := h.2; omega
theorem carr_Lm (f : Nat → Int) (h : ∀ i, i < 5 → 0 ≤ f i ∧ f i ≤ 9223372036854775808) : Lm (carr f) := by
  obtain ⟨e0, e1, e2, e3, e4⟩ := carr_eq f
  have h0 := h 0 (by omega); have h1 := h 1 (by omega); have h2 := h 2 (by omega); have h3 := h 3 (by omega); have h4 := h 4 (by omega)
  refine ⟨fun i hi => ?_, ?_⟩
  · have hc : i = 0 ∨ i = 1 ∨ i = 2 ∨ i = 3 := by omega
    rcases hc with rfl | rfl | rfl | rfl
    · rw [e0]; omega
    · rw [e1]; omega
    · rw [e2]; omega
    · rw [e3]; omega
  · rw [e4]; omega
theorem carr_V (f : Nat → Int) : V51 (carr f) = V51 f - PP * (f 4 / 2251799813685248) := by
  obtain ⟨e0, e1, e2, e3, e4⟩ := carr_eq f
  unfold V51 PP
  rw [e0, e1, e2, e3, e4]
  omega
theorem carr_mod (f : Nat → Int) : V51 (carr f) % PP = V51 f % PP := by
  rw [carr_V, Int.sub_mul_emod_self_left]
theorem carr_two (f : Nat → Int) (h : Lm f) : ∀ i, i < 5 → 0 ≤ carr f i ∧ carr f i < 2251799813685248 := by
  obtain ⟨e0, e1, e2, e3, e4⟩ := carr_eq f
  have h0 := h.1 0 (by omega); have h1 := h.1 1 (by omega); have h2 := h.1 2 (by omega); have h3 := h.1 3 (by omega); have h4 := h.2
  intro i hi
  have hc : i = 0 ∨ i = 1 ∨ i = 2 ∨ i = 3 ∨ i = 4 := by omega
  rcases hc with rfl | rfl | rfl | rfl | rfl
  · rw [e0]; omega
  · rw [e1]; omega
  · rw [e2]; omega
  · rw [e3]; omega
  · rw [e4]; omega
def plus19 (f : Nat → Int) : Nat → Int := upd f 0 (f 0 + 19)
theorem val_upd0 (B : Int) (f : Nat → Int) (x : Int) : ∀ n, val B (upd f 0 x) (n + 1) = val B f (n + 1) + (x - f 0)
  | 0 => by simp [val, upd]; omega
  | n + 1 => by
    have ih := val_upd0 B f x n
    rw [val, ih, upd_other _ _ _ _ (by omega)]
    show _ = val B f (n + 1) + f (n + 1) * B ^ (n + 1) + (x - f 0)
    omega
def quo (f : Nat → Int) : Int := cy 2251799813685248 (plus19 f) 5
theorem quo_eq (f : Nat → Int) : quo f = (V51 f + 19) / 57896044618658097711785492504343953926634992332820282019728792003956564819968 := by
  unfold quo
  rw [(cy_div 2251799813685248 (by omega) (plus19 f) 5).1]
  unfold plus19
  rw [val_upd0, V51_val]
  have e : val 2251799813685248 f (4 + 1) = val 2251799813685248 f 5 := rfl
  have e5 : (2251799813685248 : Int) ^ (4 + 1) = 57896044618658097711785492504343953926634992332820282019728792003956564819968 := by decide
  rw [e]
  congr 1
  omega
def topped (f : Nat → Int) : Nat → Int := upd f 0 (f 0 + 19 * quo f)
def leastL (f : Nat → Int) (i : Nat) : Int := (topped f i + cy 2251799813685248 (topped f) i) % 2251799813685248
theorem leastL_V (f : Nat → Int) (h : ∀ i, i < 5 → 0 ≤ f i ∧ f i < 2251799813685248) : val 2251799813685248 (leastL f) 5 = V51 f % PP := by
  have h2 := (cy_div 2251799813685248 (by omega) (topped f) 5).2
  have hb := val_b 2251799813685248 (by omega) f 5 h
  rw [← V51_val] at hb
  have hq := quo_eq f
  have e : val 2251799813685248 (leastL f) 5 = val 2251799813685248 (topped f) 5 % 2251799813685248 ^ 5 := h2
  rw [e]
  unfold topped
  rw [val_upd0, ← V51_val]
  generalize quo f = q at *
  generalize V51 f = x at *
  have e5 : (2251799813685248 : Int) ^ 5 = 57896044618658097711785492504343953926634992332820282019728792003956564819968 := by decide
  rw [e5] at hb ⊢
  have hq' : q = 0 ∨ q = 1 := by omega
  unfold PP
  have e0 : x + (f 0 + 19 * q - f 0) = x + 19 * q := by omega
  rw [e0]
  clear e e0 e5 h2
  rcases hq' with rfl | rfl <;> omega
theorem leastL_b (f : Nat → Int) (i : Nat) : 0 ≤ leastL f i ∧ leastL f i < 2251799813685248 := by unfold leastL; omega
theorem quo_b (f : Nat → Int) (h : ∀ i, i < 5 → 0 ≤ f i ∧ f i < 2251799813685248) : ∀ i, i ≤ 5 → 0 ≤ cy 2251799813685248 (plus19 f) i ∧ cy 2251799813685248 (plus19 f) i ≤ 1
  | 0, _ => by simp [cy]
  | i + 1, hi => by
    have ih := quo_b f h i (by omega)
    have e : cy 2251799813685248 (plus19 f) (i + 1) = (plus19 f i + cy 2251799813685248 (plus19 f) i) / 2251799813685248 := rfl
    have hx : 0 ≤ plus19 f i ∧ plus19 f i ≤ 2251799813685248 + 18 := by
      have := h i (by omega)
      unfold plus19 upd
      split
      · rename_i h0; subst h0; omega
      · omega
    have hy : 0 < i → plus19 f i < 2251799813685248 := fun h0 => by
      have := h i (by omega)
      unfold plus19; rw [upd_other _ _ _ _ (by omega)]; omega
    rw [e]
    rcases Nat.eq_zero_or_pos i with h0 | h0
    · subst h0
      have : cy 2251799813685248 (plus19 f) 0 = 0 := rfl
      omega
    · have := hy h0
      omega
def outB (N : Int) (i j : Nat) : Int := N / 256 ^ j % 2 ^ (min 8 (i - 8 * j))
theorem div_pow (N : Int) (a b : Nat) : N / 2 ^ a / 2 ^ b = N / 2 ^ (a + b) := by
  rw [Int.ediv_ediv_of_nonneg (Int.le_of_lt (Int.pow_pos (by omega))), ← Int.pow_add]
theorem powB (k : Nat) : (2251799813685248 : Int) ^ k = 2 ^ (51 * k) := by
  rw [Int.pow_mul]; rfl
theorem mod_pow_div (x : Int) (n s : Nat) (h : s < n) : x % 2 ^ n / 2 ^ s % 2 = x / 2 ^ s % 2 := by
  obtain ⟨m, rfl⟩ : ∃ m, n = s + (m + 1) := ⟨n - s - 1, by omega⟩
  have hp : (0 : Int) < 2 ^ s := Int.pow_pos (by omega)
  have e := Int.emod_add_mul_ediv x (2 ^ (s + (m + 1)))
  generalize x % 2 ^ (s + (m + 1)) = r at *
  generalize x / 2 ^ (s + (m + 1)) = q at *
  have e2 : (2 : Int) ^ (s + (m + 1)) * q = 2 ^ s * (2 * (2 ^ m * q)) := by rw [Int.pow_add, Int.pow_succ]; grind
  rw [e2] at e
  rw [← e, Int.add_mul_ediv_left _ _ (by omega)]
  omega
theorem limb_bit (N : Int) (i : Nat) : dig 2251799813685248 N (i / 51) / 2 ^ (i % 51) % 2 = N / 2 ^ i % 2 := by
  unfold dig
  have e : (2251799813685248 : Int) = 2 ^ 51 := by decide
  rw [powB, e, mod_pow_div _ 51 _ (by omega), div_pow]
  congr 3
  omega
theorem mod_succ (x : Int) (r : Nat) : x % 2 ^ (r + 1) = x % 2 ^ r + x / 2 ^ r % 2 * 2 ^ r := by
  have hp : (0 : Int) < 2 ^ r := Int.pow_pos (by omega)
  have h1 := Int.emod_add_mul_ediv x (2 ^ r)
  have h2 := Int.emod_add_mul_ediv (x / 2 ^ r) 2
  have b1 := Int.emod_nonneg x (show (2 : Int) ^ r ≠ 0 by omega)
  have b2 := Int.emod_lt_of_pos x hp
  have hc : x / 2 ^ r % 2 = 0 ∨ x / 2 ^ r % 2 = 1 := by omega
  rw [Int.pow_succ]
  have e : x = (x % 2 ^ r + x / 2 ^ r % 2 * 2 ^ r) + (2 ^ r * 2) * (x / 2 ^ r / 2) := by grind
  have e2 : x % (2 ^ r * 2) = (x % 2 ^ r + x / 2 ^ r % 2 * 2 ^ r) := by
    conv => lhs; rw [e]
    rw [Int.add_mul_emod_self_left]
    apply Int.emod_eq_of_lt
    · rcases hc with h | h <;> rw [h] <;> omega
    · rcases hc with h | h <;> rw [h] <;> omega
  exact e2
theorem outB_step (N : Int) (i j : Nat) : outB N (i + 1) j = upd (outB N i) (i / 8) (outB N i (i / 8) + N / 2 ^ i % 2 * 2 ^ (i % 8)) j := by
  by_cases h : j = i / 8
  · subst h
    rw [upd_same]
    unfold outB
    rw [show min 8 (i + 1 - 8 * (i / 8)) = i % 8 + 1 by omega, show min 8 (i - 8 * (i / 8)) = i % 8 by omega, mod_succ, pow256, div_pow, show 8 * (i / 8) + i % 8 = i by omega]
  · rw [upd_other _ _ _ _ h]
    unfold outB
    rw [show min 8 (i + 1 - 8 * j) = min 8 (i - 8 * j) by omega]
theorem bit_step (f : Nat → Int) (hf : ∀ i, i < 5 → 0 ≤ f i ∧ f i < 2251799813685248) (N : Int) (hN : val 2251799813685248 f 5 = N) (i : Nat) (hi : i < 255) :
    Go.bits .or .u8 (outB N i (i / 8)) (Go.bits .and .u64 (f (i / 51) / 2 ^ (i % 51)) 1 % 256 * 2 ^ (i % 8) % 256) = outB N i (i / 8) + N / 2 ^ i % 2 * 2 ^ (i % 8) := by
  have hp : (0 : Int) < 2 ^ (i % 51) := Int.pow_pos (by omega)
  have hb := hf (i / 51) (by omega)
  have h0 : 0 ≤ f (i / 51) / 2 ^ (i % 51) := Int.ediv_nonneg hb.1 (by omega)
  have h1 : f (i / 51) / 2 ^ (i % 51) ≤ f (i / 51) := Int.ediv_le_self _ hb.1
  rw [and1 _ h0 (by omega), dig_val 2251799813685248 (by omega) f 5 hf (i / 51) (by omega), hN, limb_bit]
  apply or_bit _ _ _ (by omega)
  · unfold outB
    rw [show min 8 (i - 8 * (i / 8)) = i % 8 by omega]
    have hp8 : (0 : Int) < 2 ^ (i % 8) := Int.pow_pos (by omega)
    exact ⟨Int.emod_nonneg _ (by omega), Int.emod_lt_of_pos _ hp8⟩
  · omega
theorem outB_end (N : Int) (h0 : 0 ≤ N) (h1 : N < 57896044618658097711785492504343953926634992332820282019728792003956564819968) (j : Nat) (hj : j < 32) : outB N 255 j = dig 256 N j := by
  unfold outB dig
  by_cases h : j = 31
  · subst h
    have e : (256 : Int) ^ 31 = 452312848583266388373324160190187140051835877600158453279131187530910662656 := by decide
    rw [e, show min 8 (255 - 8 * 31) = 7 by omega, show (2 : Int) ^ 7 = 128 by decide]
    omega
  · rw [show min 8 (255 - 8 * j) = 8 by omega]; rfl
attribute [local go_sem] setCell_drewN
theorem info25 : (Tryd.prog.info? 38).map (·.size) = some 5 := by kernel_rfl
theorem info27 : (Tryd.prog.info? 40).map (·.size) = some 5 := by kernel_rfl
theorem info22 : (Tryd.prog.info? 22).map (·.size) = some 32 := by kernel_rfl
theorem field27 (f : Nat → Int) (w : World) : (Instr.field 40 (.agg (FR .u64 5 f)) 0).run Tryd.prog w = .ok (.agg (FR .u64 5 f)) w := by
  show (Instr.field 40 (.agg #[.int .u64 (f 0), .int .u64 (f 1), .int .u64 (f 2), .int .u64 (f 3), .int .u64 (f 4)]) 0).run Tryd.prog w = .ok (.agg #[.int .u64 (f 0), .int .u64 (f 1), .int .u64 (f 2), .int .u64 (f 3), .int .u64 (f 4)]) w
  unfold Instr.field asAgg
  go_simp
def QRel (w : World) (l : Nat → Int) (b2 : Nat) (v5 v4 : Value) (wr : World) : Prop :=
  ∃ i : Nat, 1 ≤ i ∧ i ≤ 5 ∧ v5 = .int .i64 (i : Int) ∧ v4 = .int .u64 (cy 2251799813685248 (plus19 l) i) ∧ Below w.heap.size w wr ∧ Row wr (w.heap.size + 1) .u8 32 (fun _ => 0) 22 ∧ Row wr b2 .u64 5 l 38
theorem cyT_b (g : Nat → Int) (h0 : 0 ≤ g 0 ∧ g 0 ≤ 2251799813685266) (h : ∀ i, i < 5 → i ≠ 0 → 0 ≤ g i ∧ g i < 2251799813685248) : ∀ i, i ≤ 5 → 0 ≤ cy 2251799813685248 g i ∧ cy 2251799813685248 g i ≤ 1
  | 0, _ => by simp [cy]
  | i + 1, hi => by
    have ih := cyT_b g h0 h i (by omega)
    have e : cy 2251799813685248 g (i + 1) = (g i + cy 2251799813685248 g i) / 2251799813685248 := rfl
    rw [e]
    by_cases hz : i = 0
    · subst hz
      have : cy 2251799813685248 g 0 = 0 := rfl
      omega
    · have := h i (by omega) hz
      omega
theorem topped_b (l : Nat → Int) (hl : ∀ i, i < 5 → 0 ≤ l i ∧ l i < 2251799813685248) : (0 ≤ topped l 0 ∧ topped l 0 ≤ 2251799813685266) ∧ (∀ i, i < 5 → i ≠ 0 → 0 ≤ topped l i ∧ topped l i < 2251799813685248) := by
  have hq := quo_b l hl 5 (by omega)
  have h0 := hl 0 (by omega)
  refine ⟨?_, fun i hi hz => ?_⟩
  · unfold topped quo; rw [upd_same]; omega
  · unfold topped; rw [upd_other _ _ _ _ hz]; exact hl i hi
def midL (l : Nat → Int) (i j : Nat) : Int := if j < i then leastL l j else if j = i then topped l i + cy 2251799813685248 (topped l) i else topped l j
theorem midL_zero (l : Nat → Int) (j : Nat) : midL l 0 j = topped l j := by
  unfold midL
  rw [if_neg (by omega)]
  split
  · rename_i h; subst h; show _ + (0 : Int) = _; omega
  · rfl
theorem midL_step (l : Nat → Int) (i j : Nat) : midL l (i + 1) j = upd (upd (midL l i) (i + 1) (topped l (i + 1) + (topped l i + cy 2251799813685248 (topped l) i) / 2251799813685248)) i ((topped l i + cy 2251799813685248 (topped l) i) % 2251799813685248) j := by
  by_cases h1 : j = i
  · subst h1; rw [upd_same]; unfold midL; rw [if_pos (by omega)]; rfl
  · rw [upd_other _ _ _ _ h1]
    by_cases h2 : j = i + 1
    · subst h2; rw [upd_same]; unfold midL; rw [if_neg (by omega), if_pos rfl]; rfl
    · rw [upd_other _ _ _ _ h2]; unfold midL
      by_cases h3 : j < i
      · rw [if_pos h3, if_pos (by omega)]
      · rw [if_neg h3, if_neg h1, if_neg (by omega), if_neg h2]
def GRel (w : World) (l : Nat → Int) (b2 : Nat) (v35 : Value) (wr : World) : Prop :=
  ∃ i : Nat, i ≤ 4 ∧ v35 = .int .i64 (i : Int) ∧ Below w.heap.size w wr ∧ Row wr (w.heap.size + 1) .u8 32 (fun _ => 0) 22 ∧ Row wr b2 .u64 5 (midL l i) 38
def ZRel (w : World) (l : Nat → Int) (N : Int) (b2 b4 : Nat) (v58 : Value) (wr : World) : Prop :=
  ∃ i : Nat, i ≤ 255 ∧ v58 = .int .i64 (i : Int) ∧ Below w.heap.size w wr ∧ Row wr (w.heap.size + 1) .u8 32 (fun _ => 0) 22 ∧ Row wr b2 .u64 5 (leastL l) 38 ∧ Row wr b4 .u8 32 (outB N i) 22
theorem elem_bytes_calls (f : Nat → Int) (w : World) (hf : ∀ i, i < 5 → 0 ≤ f i ∧ f i ≤ 9223372036854775808) :
    Calls Tryd.prog 40 #[.agg (FR .u64 5 f)] w fun e w' => e = .returned (.agg (FR .u8 32 (dig 256 (V51 f % PP)))) ∧ Below w.heap.size w w' := by
  have HL1 := Aside0.mk (carr_Lm f hf)
  have HD := Aside0.mk (carr_two _ (carr_Lm f hf))
  have HC1 := Aside0.mk (fun w => carr_calls f w hf)
  have HC2 := Aside0.mk (fun w => carr_calls (carr f) w (fun i hi => by have := (carr_Lm f hf).b i hi; omega))
  clear hf
  go_enter Tryd.func40, Tryd.ntmps40
  have HR0 := Aside0.mk ((Row.new w .u64 5 f 40).alloc (.cells (FR .u8 32 fun _ => 0) 22))
  have HZ0 : Aside0 (Row ((w.alloc (.cells (FR .u64 5 f) 40)).alloc (.cells (FR .u8 32 fun _ => 0) 22)) (w.heap.size + 1) .u8 32 (fun _ => 0) 22) := Aside0.mk (heap_alloc2_new w _ _)
  have HB0 := Aside0.mk (bel_two w (.cells (FR .u64 5 f) 40) (.cells (FR .u8 32 fun _ => 0) 22))
  go_wp2_with (refine zX HR0.out Tryd.underlying38 info25 rfl rfl rfl rfl ?_)
  refine (HC1.out _).mono ?_
  rintro e w1 ⟨rfl, hb⟩
  have HZ1 := Aside0.mk (HZ0.out.below hb HZ0.out.lt)
  have HB1 := Aside0.mk (HB0.out.trans (hb.mono (by simp; omega)))
  have hl1 := HZ1.out.lt
  clear hb HR0 HZ0 HB0
  have hfl := field27
  go_wp2_with fail
  refine (HC2.out _).mono ?_
  rintro e w2 ⟨rfl, hb⟩
  have HZ2 := Aside0.mk (HZ1.out.below hb hl1)
  have HB2 := Aside0.mk (HB1.out.trans (hb.mono (by omega)))
  have hl2 := HZ2.out.lt
  clear hb HZ1 HB1
  have HN := Aside0.mk (Row.new w2 .u64 5 (fun _ => 0) 38)
  have HZ3 := Aside0.mk (HZ2.out.alloc (.cells (FR .u64 5 fun _ => 0) 38))
  have HB3 := Aside0.mk (HB2.out.alloc (by omega) (.cells (FR .u64 5 fun _ => 0) 38))
  have HV : Aside0 (V51 (carr (carr f)) % PP = V51 f % PP) := ⟨by rw [carr_mod, carr_mod]⟩
  generalize carr (carr f) = l at *
  have hl0 := HD.out 0 (by omega)
  have hw19 : IntKind.u64.wrap (l 0 + 19) = l 0 + 19 := u64w _ (by omega) (by omega)
  have HQ1 : Aside0 (cy 2251799813685248 (plus19 l) 1 = (l 0 + 19) / 2251799813685248) := ⟨by show (l 0 + 19 + 0) / _ = _; rw [Int.add_zero]⟩
  clear hl0 HC1 HC2
  go_wp2_with (refine zQ l HN.out info25 rfl rfl rfl rfl rfl ?_; intro w3 hs hr; have HS3 := Aside0.mk hs; have HR3 := Aside0.mk hr; have k0 := hr.cell 0 (by omega); clear hs hr)
  have HZ4 := Aside0.mk (HZ3.out.stored HS3.out (by omega))
  have HB4 := Aside0.mk (HS3.out.bel _ _ (by omega) HB3.out)
  clear HZ3 HB3 HZ2 HB2 HN HS3 k0 hfl
  go_loopw [5, 4] (fun v5 v4 wr => QRel w l w2.heap.size v5 v4 wr) (fun v _ _ => 5 - (intOf v).toNat)
  case atStart => exact ⟨1, by omega, by omega, rfl, by rw [HQ1.out], HB4.out, HZ4.out, HR3.out⟩
  case round =>
    clear HZ4 HB4 HR3 HQ1
    obtain ⟨i, h1, hi, rfl, rfl, hb, hz, hr⟩ := hrel
    have HB := Aside0.mk hb
    have HZ := Aside0.mk hz
    have HR := Aside0.mk hr
    rcases Nat.lt_or_ge i 5 with h5 | h5
    · have hlt : ((i : Int) < 5) = True := eq_true (by omega)
      have k0 := hr.cell i (by omega)
      have hb0 := HD.out i (by omega)
      have hq0 := quo_b l HD.out i (by omega)
      have HX : Aside0 (cy 2251799813685248 (plus19 l) (i + 1) = (l i + cy 2251799813685248 (plus19 l) i) / 2251799813685248) := ⟨by
        show (plus19 l i + _) / _ = _
        unfold plus19; rw [upd_other _ _ _ _ (by omega)]⟩
      generalize cy 2251799813685248 (plus19 l) i = q at *
      generalize l i = x at *
      have hwq : IntKind.u64.wrap (x + q) = x + q := u64w _ (by omega) (by omega)
      clear hb hz hr hb0 hq0
      go_wp2_with fail
      refine ⟨⟨i + 1, by omega, by omega, rfl, by rw [HX.out], HB.out, HZ.out, HR.out⟩, meas_up 5 i (by omega)⟩
    · obtain rfl : i = 5 := by omega
      have hl2' := hz.lt
      have k0 := hr.cell 0 (by omega)
      have f0 := hr.fro 0
      have hb0 := HD.out 0 (by omega)
      have hq0 := quo_b l HD.out 5 (by omega)
      have HQ5 : Aside0 (cy 2251799813685248 (plus19 l) 5 = quo l) := ⟨rfl⟩
      have HRT := Aside0.mk (hr.set 0 (l 0 + 19 * cy 2251799813685248 (plus19 l) 5) (by omega))
      generalize cy 2251799813685248 (plus19 l) 5 = q at *
      have hwq : IntKind.u64.wrap (19 * q) = 19 * q := u64w _ (by omega) (by omega)
      have hwq2 : IntKind.u64.wrap (l 0 + 19 * q) = l 0 + 19 * q := u64w _ (by omega) (by omega)
      clear hb hz hr hb0 hq0
      go_wp2_with fail
      have HBT := Aside0.mk (yJ HB.out ⟨w2.heap.size, 0, none⟩ (.int .u64 (l 0 + 19 * q)) (by simp; omega))
      have HZT := Aside0.mk (HZ.out.other ⟨w2.heap.size, 0, none⟩ (.int .u64 (l 0 + 19 * q)) (by simp; omega))
      have HRT2 : Aside0 (Row (wr.setCell ⟨w2.heap.size, 0, none⟩ (.int .u64 (l 0 + 19 * q))) w2.heap.size .u64 5 (midL l 0) 38) := ⟨row_eq HRT.out (fun j hj => by rw [midL_zero]; unfold topped; rw [← HQ5.out])⟩
      clear HB HZ HR HRT k0 f0 hwq hwq2
      generalize wr.setCell ⟨w2.heap.size, 0, none⟩ (.int .u64 (l 0 + 19 * q)) = w5 at *
      go_loopw [35] (fun v35 wr => GRel w l w2.heap.size v35 wr) (fun v _ => 4 - (intOf v).toNat)
      case atStart => exact ⟨0, by omega, rfl, HBT.out, HZT.out, HRT2.out⟩
      case round =>
        clear HBT HZT HRT2
        obtain ⟨i, hi, rfl, hb, hz, hr⟩ := hrel
        have HB := Aside0.mk hb
        have HZ := Aside0.mk hz
        have HR := Aside0.mk hr
        have hlz := hz.lt
        have hlr := hr.lt
        rcases Nat.lt_or_ge i 4 with h4 | h4
        · have hlt : ((i : Int) < 4) = True := eq_true (by omega)
          have hlt5 : ((i : Int) < 5) = True := eq_true (by omega)
          have hlt6 : ((i : Int) + 1 < 5) = True := eq_true (by omega)
          have hb0 := topped_b l HD.out
          have hb1 := hb0.2 (i + 1) (by omega) (by omega)
          have hc := cyT_b (topped l) hb0.1 hb0.2 i (by omega)
          have hb2 : 0 ≤ topped l i ∧ topped l i ≤ 2251799813685266 := by
            by_cases hz : i = 0
            · subst hz; exact hb0.1
            · have := hb0.2 i (by omega) hz; omega
          have k0 := hr.cell i (by omega)
          have k1 := hr.cell (i + 1) (by omega)
          have f0 := hr.fro i
          have f1 := hr.fro (i + 1)
          have e0 : midL l i i = topped l i + cy 2251799813685248 (topped l) i := by unfold midL; rw [if_neg (by omega), if_pos rfl]
          have e1 : midL l i (i + 1) = topped l (i + 1) := by unfold midL; rw [if_neg (by omega), if_neg (by omega)]
          rw [e0] at k0
          rw [e1] at k1
          have HS := Aside0.mk (row_eq ((hr.set (i + 1) (topped l (i + 1) + (topped l i + cy 2251799813685248 (topped l) i) / 2251799813685248) (by omega)).set i ((topped l i + cy 2251799813685248 (topped l) i) % 2251799813685248) (by omega)) (fun j hj => (midL_step l i j).symm))
          generalize hT : topped l i + cy 2251799813685248 (topped l) i = T at *
          have hTb : 0 ≤ T ∧ T < 4503599627370496 := by omega
          generalize topped l (i + 1) = y at *
          have m0 := mask51 T (by omega) (by omega)
          have hw : IntKind.u64.wrap (y + T / 2251799813685248) = y + T / 2251799813685248 := u64w _ (by omega) (by omega)
          clear hb hz hr e0 e1 hb0 hb1 hc hb2 hT hTb
          go_wp2_with fail
          go_region
          all_goals go_wp2_with fail
          refine ⟨⟨i + 1, by omega, rfl, yJ (bel_drewN (yJ HB.out _ _ (by simp; omega)) 1) _ _ (by simp; omega), ?_, ?_⟩, meas_up 4 i (by omega)⟩
          · exact (HZ.out.other ⟨w2.heap.size, i + 1, none⟩ _ (by simp; omega)).other ⟨w2.heap.size, i, none⟩ _ (by simp; omega)
          · exact HS.out
        · obtain rfl : i = 4 := by omega
          have hb0 := topped_b l HD.out
          have hb1 := hb0.2 4 (by omega) (by omega)
          have hc := cyT_b (topped l) hb0.1 hb0.2 4 (by omega)
          have k4 := hr.cell 4 (by omega)
          have f4 := hr.fro 4
          have e4 : midL l 4 4 = topped l 4 + cy 2251799813685248 (topped l) 4 := rfl
          rw [e4] at k4
          have HS := Aside0.mk (row_eq (hr.set 4 ((topped l 4 + cy 2251799813685248 (topped l) 4) % 2251799813685248) (by omega)) (f' := leastL l) (fun j hj => by
            by_cases h : j = 4
            · subst h; rw [upd_same]; rfl
            · rw [upd_other _ _ _ _ h]; unfold midL; rw [if_pos (by omega)]))
          generalize hT : topped l 4 + cy 2251799813685248 (topped l) 4 = T at *
          have m4 := mask51 T (by omega) (by omega)
          have HBT := Aside0.mk (yJ HB.out ⟨w2.heap.size, 4, none⟩ (.int .u64 (T % 2251799813685248)) (by simp; omega))
          have HZT := Aside0.mk (HZ.out.other ⟨w2.heap.size, 4, none⟩ (.int .u64 (T % 2251799813685248)) (by simp; omega))
          clear hb hz hr e4 hb0 hb1 hc hT
          go_wp2_with fail
          have hs6 : (wr.setCell ⟨w2.heap.size, 4, none⟩ (.int .u64 (T % 2251799813685248))).heap.size = wr.heap.size := by simp [World.setCell]
          generalize wr.setCell ⟨w2.heap.size, 4, none⟩ (.int .u64 (T % 2251799813685248)) = w6 at *
          have HBA := Aside0.mk (HBT.out.alloc (by omega) (.cells (FR .u8 32 fun _ => 0) 22))
          have HZA := Aside0.mk (HZT.out.alloc (.cells (FR .u8 32 fun _ => 0) 22))
          have HSA := Aside0.mk (HS.out.alloc (.cells (FR .u8 32 fun _ => 0) 22))
          have hoa := Row.new w6 .u8 32 (fun _ => 0) 22
          rw [hs6] at hoa
          have HOA := Aside0.mk hoa
          clear hoa
          have HN : Aside0 (val 2251799813685248 (leastL l) 5 = V51 f % PP) := ⟨by rw [leastL_V l HD.out, HV.out]⟩
          clear HB HZ HR HS HBT HZT k4 f4 m4
          have hw6 : w.heap.size + 1 < w6.heap.size := by omega
          have hw62 : w2.heap.size < w6.heap.size := by omega
          have hb4 : w2.heap.size < wr.heap.size := by omega
          have hb41 : w.heap.size + 1 < wr.heap.size := by omega
          generalize wr.heap.size = b4 at *
          go_loopw [58] (fun v58 wr => ZRel w l (V51 f % PP) w2.heap.size b4 v58 wr) (fun v _ => 255 - (intOf v).toNat)
          case atStart => exact ⟨0, by omega, rfl, HBA.out, HZA.out, HSA.out, row_eq HOA.out (fun j hj => by unfold outB; rw [show min 8 (0 - 8 * j) = 0 by omega]; simp [Int.emod_one])⟩
          case round =>
            clear HBA HZA HSA HOA
            obtain ⟨i, hi, rfl, hb, hz, hr, ho⟩ := hrel
            have HB := Aside0.mk hb
            have HZ := Aside0.mk hz
            have HR := Aside0.mk hr
            have HO := Aside0.mk ho
            have hlz := hz.lt
            have hlr := hr.lt
            rcases Nat.lt_or_ge i 255 with h4 | h4
            · have hlt : ((i : Int) < 255) = True := eq_true (by omega)
              have d8 : Int.tdiv (i : Int) 8 = ((i / 8 : Nat) : Int) := rfl
              have d51 : Int.tdiv (i : Int) 51 = ((i / 51 : Nat) : Int) := rfl
              have r51 : Int.tmod (i : Int) 51 = ((i % 51 : Nat) : Int) := rfl
              have r8 : Int.tmod (i : Int) 8 = ((i % 8 : Nat) : Int) := rfl
              have l8 : (((i / 8 : Nat) : Int) < 32) = True := eq_true (by omega)
              have l51 : (((i / 51 : Nat) : Int) < 5) = True := eq_true (by omega)
              have k8 := ho.cell (i / 8) (by omega)
              have k51 := hr.cell (i / 51) (by omega)
              have f8 := ho.fro (i / 8)
              clear hb hz hr ho
              go_wp2_with fail
              go_region
              all_goals go_wp2_with fail
              refine ⟨⟨i + 1, by omega, rfl, (yJ HB.out ⟨b4, i / 8, none⟩ _ (by simp; omega)).drew, HZ.out.other ⟨b4, i / 8, none⟩ _ (by simp; omega), HR.out.other ⟨b4, i / 8, none⟩ _ (by simp; omega), ?_⟩, meas_up 255 i (by omega)⟩
              rw [bit_step (leastL l) (fun i _ => leastL_b l i) (V51 f % PP) HN.out i h4]
              exact row_eq (HO.out.set (i / 8) _ (by omega)) (fun j hj => (outB_step (V51 f % PP) i j).symm)
            · obtain rfl : i = 255 := by omega
              have HO2 := Aside0.mk (row_eq HO.out (f' := dig 256 (V51 f % PP)) (fun j hj => outB_end _ (Int.emod_nonneg _ (by decide)) (Int.lt_trans (Int.emod_lt_of_pos _ (by decide)) (by decide)) j hj))
              clear hb hz hr ho HO
              go_wp2_with (first | refine zX HO2.out Tryd.underlying22 info22 rfl rfl rfl rfl ?_ | (refine zQ _ HZ.out info22 rfl rfl rfl rfl rfl ?_; intro w9 hs hr; have HS9 := Aside0.mk hs; have HR9 := Aside0.mk hr; clear hs hr))
              refine bodyPost_ret (zY rfl HR9.out rfl Tryd.underlying22 rfl info22) rfl ?_
              exact ⟨rfl, HS9.out.bel _ _ (by omega) HB.out⟩
theorem info5s : (Tryd.prog.info? 5).map (·.size) = some 1 := by kernel_rfl
theorem info3s : (Tryd.prog.info? 3).map (·.size) = some 1 := by kernel_rfl
theorem index22 (f : Nat → Int) (i : Nat) (hi : i < 32) (w : World) : (Instr.index 22 (.agg (FR .u8 32 f)) (.int .i64 (i : Int))).run Tryd.prog w = .ok (.int .u8 (f i)) w := run_index_FR Tryd.underlying22 Tryd.underlying5 info5s f i hi w
theorem index33 (f : Nat → Int) (i : Nat) (hi : i < 16) (w : World) : (Instr.index 50 (.agg (FR .i64 16 f)) (.int .i64 (i : Int))).run Tryd.prog w = .ok (.int .i64 (f i)) w := run_index_FR Tryd.underlying50 Tryd.underlying3 info3s f i hi w
theorem equal22 (f g : Nat → Int) (w : World) : (Op.equal 22 (.agg (FR .u8 32 f)) (.agg (FR .u8 32 g))).run Tryd.prog w = .ok (sameRow 32 f g) w := run_equal_FR Tryd.underlying22 Tryd.underlying5 info5s f g w
theorem modP_b (x : Int) : 0 ≤ x % PP ∧ x % PP < 57896044618658097711785492504343953926634992332820282019728792003956564819949 := by
  unfold PP; omega
theorem modP_32 (x : Int) : 0 ≤ x % PP ∧ x % PP < 256 ^ 32 := by
  have := modP_b x
  have e : (256 : Int) ^ 32 = 115792089237316195423570985008687907853269984665640564039457584007913129639936 := by decide
  rw [e]; omega
end Go.Proofs.YtbmnkchcekacfaaDoor.P.Fd
end
