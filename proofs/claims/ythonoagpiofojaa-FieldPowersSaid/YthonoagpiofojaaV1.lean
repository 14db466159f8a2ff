/- Rows of numbers as values: an element, and whether two are the same. -/
import Derived.Test.YthonoagpiofojaaP1
import Derived.ChangeKeysEq
namespace Go.Proofs.Ythonoagpiofojaa.P
set_option linter.unusedVariables false
set_option linter.unusedSimpArgs false
open Go.RowKit
theorem run_part_FR {P : Program} (e : TypeId) {k : IntKind} (he : P.underlying e = some (.int k)) {n : Nat} (f : Nat → Int) (i : Nat) (hi : i < n) (w : World) : (part e (FR k n f) i).run P w = .ok (.int k (f i)) w := by
  have ha : (isAgg e).run P w = .ok false w := by simp [isAgg, run_underlying he]
  simp only [part, Sem.run_bind, ha, Result.andThen_ok, FR_at _ _ _ _ hi]
  rfl
theorem run_eq_int {P : Program} (e : TypeId) {k : IntKind} (he : P.underlying e = some (.int k)) (d : Nat) (a b : Int) (w : World) : (Op.equalIn (d + 1) e (.int k a) (.int k b)).run P w = .ok (a == b) w := by
  simp only [Op.equalIn, Sem.run_bind, run_underlying he, Result.andThen_ok]
  simp
theorem run_eqItems_FR {P : Program} (e : TypeId) {k : IntKind} (he : P.underlying e = some (.int k)) {n : Nat} (f g : Nat → Int) (d : Nat) (w : World) : ∀ is : List Nat, (∀ i ∈ is, i < n) →
    (Op.eqItems (d + 1) e 1 (FR k n f) (FR k n g) is).run P w = .ok (is.all fun i => f i == g i) w
  | [], _ => by simp [Op.eqItems]
  | i :: is, h => by
    have ih := run_eqItems_FR e he f g d w is (fun j hj => h j (by simp [hj]))
    have hi := h i (by simp)
    have p1 := run_part_FR (P := P) e he f i hi w
    have p2 := run_part_FR (P := P) e he g i hi w
    have p3 := run_eq_int (P := P) e he d (f i) (g i) w
    simp only [Op.eqItems, Nat.mul_one, Sem.run_bind, p1, p2, p3, Result.andThen_ok]
    cases hb : (f i == g i)
    · simp [hb]
    · simp [hb, ih]
/-- Are the first n numbers the same? -/
def sameRow (n : Nat) (f g : Nat → Int) : Bool := decide (∀ i, i < n → f i = g i)
theorem sameRow_iff (n : Nat) (f g : Nat → Int) : sameRow n f g = true ↔ ∀ i, i < n → f i = g i := by unfold sameRow; simp
theorem run_equal_FR {P : Program} {t e : TypeId} {k : IntKind} {n : Nat} (ht : P.underlying t = some (.array n e)) (he : P.underlying e = some (.int k)) (hc : (P.info? e).map (·.size) = some 1) (f g : Nat → Int) (w : World) :
    (Op.equal t (.agg (FR k n f)) (.agg (FR k n g))).run P w = .ok (sameRow n f g) w := by
  obtain ⟨ie, hie, hs⟩ : ∃ ie, P.info? e = some ie ∧ ie.size = 1 := by
    cases h : P.info? e with
    | none => rw [h] at hc; cases hc
    | some ie => rw [h] at hc; exact ⟨ie, rfl, Option.some.inj hc⟩
  have hcell : P.cellsOf e = 1 := by simp [Program.cellsOf, hie, hs]
  have h := run_equalIn_array (P := P) w 9999 (FR k n f) (FR k n g) ht hie
  rw [hcell, run_eqItems_FR (P := P) e he f g 9998 w (List.range n) (fun i hi => List.mem_range.1 hi)] at h
  rw [show Op.equal t (.agg (FR k n f)) (.agg (FR k n g)) = Op.equalIn (9999 + 1) t (.agg (FR k n f)) (.agg (FR k n g)) from rfl, h]
  congr 1
  rw [Bool.eq_iff_iff, sameRow_iff]
  simp
theorem run_index_FR {P : Program} {t e : TypeId} {k : IntKind} {n : Nat} (ht : P.underlying t = some (.array n e)) (he : P.underlying e = some (.int k)) (hc : (P.info? e).map (·.size) = some 1) (f : Nat → Int) (i : Nat) (hi : i < n) (w : World) :
    (Instr.index t (.agg (FR k n f)) (.int .i64 (i : Int))).run P w = .ok (.int k (f i)) w := by
  obtain ⟨ie, hie, hs⟩ : ∃ ie, P.info? e = some ie ∧ ie.size = 1 := by
    cases h : P.info? e with
    | none => rw [h] at hc; cases hc
    | some ie => rw [h] at hc; exact ⟨ie, rfl, Option.some.inj hc⟩
  have h1 : (asIntOf (.int .i64 (i : Int))).run P w = .ok (IntKind.i64, (i : Int)) w := by simp [asIntOf]
  have h2 := run_part_FR (P := P) e he f i hi w
  have hin : 0 ≤ (i : Int) ∧ (i : Int) < (n : Int) := by omega
  have h3 : (typeInfo e).run P w = .ok ie w := by simp [typeInfo, hie]
  simp only [Instr.index, Sem.run_bind, h1, Result.andThen_ok, run_underlying ht, if_pos hin, sizeOf, h3, hs, Sem.run_pure, Int.toNat_natCast, Nat.mul_one, h2]
theorem info5s : (Try.prog.info? 5).map (·.size) = some 1 := by kernel_rfl
theorem info3s : (Try.prog.info? 3).map (·.size) = some 1 := by kernel_rfl
theorem index22 (f : Nat → Int) (i : Nat) (hi : i < 32) (w : World) : (Instr.index 22 (.agg (FR .u8 32 f)) (.int .i64 (i : Int))).run Try.prog w = .ok (.int .u8 (f i)) w := run_index_FR Try.underlying22 Try.underlying5 info5s f i hi w
theorem index33 (f : Nat → Int) (i : Nat) (hi : i < 16) (w : World) : (Instr.index 33 (.agg (FR .i64 16 f)) (.int .i64 (i : Int))).run Try.prog w = .ok (.int .i64 (f i)) w := run_index_FR Try.underlying33 Try.underlying3 info3s f i hi w
theorem equal22 (f g : Nat → Int) (w : World) : (Op.equal 22 (.agg (FR .u8 32 f)) (.agg (FR .u8 32 g))).run Try.prog w = .ok (sameRow 32 f g) w := run_equal_FR Try.underlying22 Try.underlying5 info5s f g w
/-- Numbers below B^n are the same where their digits are. -/
theorem digs_same (B : Int) (hB : 0 < B) (n : Nat) (x y : Int) (hx : 0 ≤ x ∧ x < B ^ n) (hy : 0 ≤ y ∧ y < B ^ n) : (∀ i, i < n → dig B x i = dig B y i) ↔ x = y := by
  constructor
  · intro h
    have h1 := val_dig B hB x n
    have h2 := val_dig B hB y n
    rw [val_congr B _ _ n h] at h1
    rw [Int.emod_eq_of_lt hx.1 hx.2] at h1
    rw [Int.emod_eq_of_lt hy.1 hy.2] at h2
    rw [← h1, h2]
  · rintro rfl i _; rfl
theorem sameRow_dig (B : Int) (hB : 0 < B) (n : Nat) (x y : Int) (hx : 0 ≤ x ∧ x < B ^ n) (hy : 0 ≤ y ∧ y < B ^ n) : sameRow n (dig B x) (dig B y) = decide (x = y) := by
  rw [Bool.eq_iff_iff, sameRow_iff, digs_same B hB n x y hx hy]; simp
theorem modP_b (x : Int) : 0 ≤ x % PP ∧ x % PP < 57896044618658097711785492504343953926634992332820282019728792003956564819949 := by
  unfold PP; omega
theorem modP_32 (x : Int) : 0 ≤ x % PP ∧ x % PP < 256 ^ 32 := by
  have := modP_b x
  have e : (256 : Int) ^ 32 = 115792089237316195423570985008687907853269984665640564039457584007913129639936 := by decide
  rw [e]; omega
end Go.Proofs.Ythonoagpiofojaa.P
