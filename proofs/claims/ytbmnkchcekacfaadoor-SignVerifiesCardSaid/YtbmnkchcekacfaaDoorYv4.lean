/- Merged of the texts: Cf, Cg, C0, Ci, Cj, Ck, Ec, Ed, Ee, Ef, Eg, Eh, Ei, Ej, Ek, Sa, Sb, Sc, Rf (trim.py). -/
import Derived.Lib.ConvBytes
import Derived.Lib.Strings
import Derived.Shelf.Spec.BitsCarry
import Derived.RangeFuncNested
import Derived.RangeFuncBound
import Derived.RangeFuncCalls
import Derived.RangeFuncLeaves
import Derived.RangeFuncBox
import Derived.Shelf.Abstract
import Derived.Shelf.RegionOpen
import Derived.OwnWalkIn
import Derived.TacticsInMore
import Derived.LoopNIn
import Derived.LoopIn
import Derived.Test.YtbmnkchcekacfaaDoorYv3
section
namespace Go.Proofs.YtbmnkchcekacfaaDoor.P
set_option linter.unusedVariables false
set_option linter.unusedSimpArgs false
open Go.RowKit Go.ChangeShapes Go.WideShapes Go.Proofs.YtbmnkchcekacfaaDoorW.PrintWords Go.Proofs.YtbmnkchcekacfaaDoorW.PrintLast Go.Proofs.YtbmnkchcekacfaaDoorW.PrintMore
open Go.Proofs.YtbmnkchcekacfaaDoor.P.Fd
theorem geq_run {x c : Int} {k : IntKind} {t : TypeId} {r : Bool} (h : decide (c ≤ x) = r) (w : World) (p q : Operand) : (do eqGuard .geq t p q (.int k x) (.int k c); binOp .geq t (.int k x) (.int k c) : Sem Value).run Tryd.prog w = .ok (.bool r) w := by subst h; go_simp
theorem rem128_run {x : Int} (hx : 0 ≤ x) (w : World) (p q : Operand) : (do eqGuard .rem 5 p q (.int .u8 x) (.int .u8 128); binOp .rem 5 (.int .u8 x) (.int .u8 128) : Sem Value).run Tryd.prog w = .ok (.int .u8 (x % 128)) w := by
  have e : x.tmod 128 = x % 128 := Int.tmod_eq_emod_of_nonneg hx
  go_simp
theorem neqS_run {s t : ByteArray} {r : Bool} (h : (s.toList == t.toList) = r) (w : World) (p q : Operand) : (do eqGuard .neq 9 p q (.string s) (.string t); binOp .neq 9 (.string s) (.string t) : Sem Value).run Tryd.prog w = .ok (.bool (!r)) w := by subst h; go_simp
theorem eqS_run {s t : ByteArray} {r : Bool} (h : (s.toList == t.toList) = r) (w : World) (p q : Operand) : (do eqGuard .eql 9 p q (.string s) (.string t); binOp .eql 9 (.string s) (.string t) : Sem Value).run Tryd.prog w = .ok (.bool r) w := by subst h; go_simp
theorem addS_run {s t u : ByteArray} (hs : s.size + t.size ≤ 9223372036854775807) (h : s ++ t = u) (w : World) (p q : Operand) : (do eqGuard .add 9 p q (.string s) (.string t); binOp .add 9 (.string s) (.string t) : Sem Value).run Tryd.prog w = .ok (.string u) w := by
  subst h
  have e : ¬ 9223372036854775807 < s.size + t.size := by omega
  go_simp
theorem index31 {b : Nat → Int} (hb : By b) (w : World) : (Instr.index 9 (.string (sOf b)) (.int .i64 31)).run Tryd.prog w = .ok (.int .u8 (b 31)) w := by
  have hz := sOf_size b
  have hl : (31 : Int) < ((sOf b).size : Int) := by rw [hz]; decide
  have hl2 : 31 < (sOf b).size := by rw [hz]; decide
  have h31 := hb 31 (by omega)
  have e : (((sOf b)[31]'hl2).toNat : Int) = b 31 := by
    show ((((List.range 32).map b).map fun n => UInt8.ofNat n.toNat).toArray[31].toNat : Int) = b 31
    simp
    omega
  go_simp
theorem slice31 (b : Nat → Int) (w : World) : (Instr.sliceAt 9 (.string (sOf b)) none (some (.int .i64 31)) none).run Tryd.prog w = .ok (.string ((sOf b).extract 0 31)) w := by
  have hz := sOf_size b
  have hl : (31 : Int) ≤ ((sOf b).size : Int) := by rw [hz]; decide
  go_simp
theorem low_str (b : Nat → Int) (x : Int) : (sOf b).extract 0 31 ++ strOfNums [x] = sOf (upd b 31 x) := by
  apply ByteArray.ext
  apply Array.ext'
  simp [sOf, strOfNums]
  rw [show (List.range 32) = List.range 31 ++ [31] from rfl, List.map_append, List.map_append, List.dropLast_append_of_ne_nil (by simp)]
  simp only [List.map_cons, List.map_nil, List.dropLast_singleton, List.append_nil]
  congr 1
theorem conv1 {w : World} {g : Nat} {z : Int} {t : TypeId} (hr : Row w g .u8 1 (fun _ => z) t) : (convert 25 9 (.slice (some ⟨g, 0, none⟩) 1 1)).run Tryd.prog w = .ok (.string (strOfNums [z])) w :=
  run_convert_bytes_arg w 25 5 Tryd.underlying25 Tryd.underlying5 g 0 1 1 [z] rfl (fun i hi => by
    have : i = 0 := by omega
    subst this
    exact hr.cell 0 (by omega)) 9 Tryd.underlying9
def lowR (b : Nat → Int) : Nat → Int := upd b 31 (b 31 % 128)
theorem lowR_By {b : Nat → Int} (hb : By b) : By (lowR b) := fun j hj => by
  have := hb j hj
  unfold lowR upd
  split
  · have := hb 31 (by omega); omega
  · exact this
def ry (b : Nat → Int) : Nat → Int := numD (lowR b)
theorem ry_Rn {b : Nat → Int} (hb : By b) : Rn (ry b) := (Re.num _ (lowR_By hb)).1
theorem oneR_Rn : Rn oneR := (Re.small 1 (by omega)).1
def rsq (b : Nat → Int) : Nat → Int := mulR (ry b) (ry b)
theorem rsq_Rn {b : Nat → Int} (hb : By b) : Rn (rsq b) := rmul (ry_Rn hb) (ry_Rn hb)
def rup (b : Nat → Int) : Nat → Int := subR (rsq b) oneR
theorem rup_Rn {b : Nat → Int} (hb : By b) : Rn (rup b) := rsub (rsq_Rn hb) oneR_Rn
def rdn (b : Nat → Int) : Nat → Int := addR (mulR dR (rsq b)) oneR
theorem rdn_Rn {b : Nat → Int} (hb : By b) : Rn (rdn b) := radd (rmul dR_Rn (rsq_Rn hb)) oneR_Rn
def rq (b : Nat → Int) : Nat → Int := mulR (rup b) (invR (rdn b))
theorem rq_Rn {b : Nat → Int} (hb : By b) : Rn (rq b) := rmul (rup_Rn hb) (rinv (rdn_Rn hb))
def rx0 (b : Nat → Int) : Nat → Int := rtR (rq b) (V16 (rq b))
theorem rx0_Rn {b : Nat → Int} (hb : By b) : Rn (rx0 b) := (rtR_Re (n := V16 (rq b)) ⟨rq_Rn hb, rfl⟩).1
def rsame (b : Nat → Int) : Bool := (sOf (dig 256 (V16 (ry b) % PP))).toList == (sOf (lowR b)).toList
def rrt (b : Nat → Int) : Bool := rOk iZ (V16 (rq b))
def rodd (b : Nat → Int) : Bool := decide (128 ≤ b 31)
def rz (b : Nat → Int) : Bool := decide (V16 (rx0 b) % PP = V16 (fun _ => 0) % PP)
def decROk (b : Nat → Int) : Bool := rsame b && (rrt b && !(rodd b && rz b))
def rx (b : Nat → Int) : Nat → Int := if rodd b then subR (fun _ => 0) (rx0 b) else rx0 b
theorem rx_Rn {b : Nat → Int} (hb : By b) : Rn (rx b) := by unfold rx; split; exact rsub Re.zero.1 (rx0_Rn hb); exact rx0_Rn hb
theorem rx_y {b X : Nat → Int} (h : rodd b = true) (hX : rx0 b = X) : subR (fun _ => 0) X = rx b := by rw [← hX]; exact (if_pos h).symm
theorem rx_n {b X : Nat → Int} (h : rodd b = false) (hX : rx0 b = X) : X = rx b := by rw [← hX]; exact (if_neg (by rw [h]; decide)).symm
def decRP (b : Nat → Int) : Nat → Int := if decROk b then pr4 (rx b) (ry b) oneR (mulR (rx b) (ry b)) else fun _ => 0
theorem decRP_n {b : Nat → Int} (h : decROk b = false) : decRP b = fun _ => 0 := if_neg (by rw [h]; decide)
theorem decRP_y {b : Nat → Int} (h : decROk b = true) : decRP b = pr4 (rx b) (ry b) oneR (mulR (rx b) (ry b)) := if_pos h
theorem rootR_r {f X : Nat → Int} {r : Bool} (hf : Rn f) (h : rOk iZ (V16 f) = r) (hX : rtR f (V16 f) = X) (w : World) : Calls Tryd.prog 63 #[.agg (FR .i64 16 f)] w fun e w' => e = .returned (.tuple #[.agg (FR .i64 16 X), .bool r]) ∧ Below w.heap.size w w' := by
  rw [← h, ← hX]; exact rootR_calls f (V16 f) w ⟨hf, rfl⟩
theorem isR_r {f g : Nat → Int} {r : Bool} (hf : Rn f) (hg : Rn g) (h : decide (V16 f % PP = V16 g % PP) = r) (w : World) : Calls Tryd.prog 64 #[.agg (FR .i64 16 f), .agg (FR .i64 16 g)] w fun e w' => e = .returned (.bool r) ∧ Below w.heap.size w w' := by
  rw [← h]; exact ref_is_calls f g w hf.cb hg.cb
theorem tabdecR_2 : rtab .any (opsOf Tryd.f28 2) = (true, [([], []), ([0], [0]), ([], []), ([2], [2]), ([3], [3]), ([4], [4]), ([5], [5]), ([1, 6], [1, 6]), ([7, 0, 1, 2, 3, 4, 5, 6, 7], [7])]) := by kernel_rfl
theorem bitsdecR_2 : zW [([], []), ([0], [0]), ([], []), ([2], [2]), ([3], [3]), ([4], [4]), ([5], [5]), ([1, 6], [1, 6]), ([7, 0, 1, 2, 3, 4, 5, 6, 7], [7])] [0, 1, 0, 4, 12, 28, 60, 127, 255] = true := by kernel_rfl
theorem tabdecR_9 : rtab .any (opsOf Tryd.f28 9) = (true, [([], []), ([], []), ([0, 1, 0], [0, 1]), ([], []), ([2, 3, 2], [2, 3]), ([], []), ([5, 4, 4, 0, 1, 2, 3, 4, 5], [4, 5])]) := by kernel_rfl
theorem bitsdecR_9 : zW [([], []), ([], []), ([0, 1, 0], [0, 1]), ([], []), ([2, 3, 2], [2, 3]), ([], []), ([5, 4, 4, 0, 1, 2, 3, 4, 5], [4, 5])] [0, 0, 3, 0, 15, 0, 63] = true := by kernel_rfl
theorem tabdecR_10 : rtab .any (opsOf Tryd.f28 10) = (true, [([], []), ([], []), ([1], [1]), ([0, 2, 2], [0, 2]), ([3, 3], [3]), ([4], [4]), ([5], [5]), ([5], [5]), ([], []), ([8, 6, 4, 0, 1, 2, 3, 4, 5, 6, 8], [6, 8]), ([7, 9, 0, 1, 2, 3, 4, 5, 6, 7, 8, 9], [7])]) := by kernel_rfl
theorem bitsdecR_10 : zW [([], []), ([], []), ([1], [1]), ([0, 2, 2], [0, 2]), ([3, 3], [3]), ([4], [4]), ([5], [5]), ([5], [5]), ([], []), ([8, 6, 4, 0, 1, 2, 3, 4, 5, 6, 8], [6, 8]), ([7, 9, 0, 1, 2, 3, 4, 5, 6, 7, 8, 9], [7])] [0, 0, 2, 7, 15, 31, 63, 63, 0, 383, 1023] = true := by kernel_rfl
theorem tabdecR_15 : rtab .any (opsOf Tryd.f28 15) = (true, [([], []), ([], []), ([], []), ([], []), ([], []), ([3, 4], [3, 4]), ([0, 1, 2, 5], [0, 1, 2, 5]), ([6, 5, 0, 1, 2, 3, 4, 5, 6], [6]), ([7, 0, 1, 2, 3, 4, 5, 6, 7], [])]) := by kernel_rfl
theorem bitsdecR_15 : zW [([], []), ([], []), ([], []), ([], []), ([], []), ([3, 4], [3, 4]), ([0, 1, 2, 5], [0, 1, 2, 5]), ([6, 5, 0, 1, 2, 3, 4, 5, 6], [6]), ([7, 0, 1, 2, 3, 4, 5, 6, 7], [])] [0, 0, 0, 0, 0, 24, 63, 127, 255] = true := by kernel_rfl
theorem decode_pr (b : Nat → Int) (w : World) (hb : By b) : Calls Tryd.prog 28 #[.string (sOf b)] w fun e w' => e = .returned (.tuple #[.agg (FR .i64 64 (decRP b)), .bool (decROk b)]) ∧ Below w.heap.size w w' := by
  obtain ⟨r1, hr1⟩ : ∃ r, rsame b = r := ⟨_, rfl⟩
  obtain ⟨r2, hr2⟩ : ∃ r, rrt b = r := ⟨_, rfl⟩
  obtain ⟨r3, hr3⟩ : ∃ r, rodd b = r := ⟨_, rfl⟩
  obtain ⟨r4, hr4⟩ : ∃ r, rz b = r := ⟨_, rfl⟩
  obtain ⟨X, hX⟩ : ∃ X, rx0 b = X := ⟨_, rfl⟩
  have hXl : Rn X := by rw [← hX]; exact rx0_Rn hb
  have hr5 : decide (V16 X % PP = V16 (fun _ => 0) % PP) = r4 := by rw [← hX]; exact hr4
  have hI := index31 hb
  have hlow : (sOf b).extract 0 31 ++ strOfNums [b 31 % 128] = sOf (lowR b) := low_str b _
  have hB31 := (hb 31 (by omega)).1
  have hsz : ((sOf b).extract 0 31).size + (strOfNums [b 31 % 128]).size ≤ 9223372036854775807 := by rw [← ByteArray.size_append, low_str, sOf_size]; decide
  refine enter_ 73 Tryd.func28 rfl rfl (fun a0 hS => ?_)
  have HS0 : Sl a0 73 [(0, .string (sOf b))] := hS
  have HH0 : Held w w [] := Held.first w
  clear hS
  refine wp_seq ?_
  have hLo : LOk [(0, 2, .ptr 0 0), (1, 3, .val (.bool false))] := lok rfl rfl
  refine zJ (wE := w) (sz := 73) (n := 2) [0, 1] [(0, .val (.string (sOf b))), (2, .ptr 0 0), (3, .val (.bool false))] _ [⟨0, some 0, none, .i64, 64, fun _ => 0, fun _ => 0, 52⟩] rfl (by rfl) HH0 rfl rfl hLo rfl HS0 (slS 0 rfl rfl (slL 0 (d := 0) rfl (slL 1 (d := 1) rfl (trivial)))) ?_ ?_
  · show ∀ i ∈ [0, 1], _
    refine zA (zK 0 0 .i64 64 52 none _ _ rfl rfl (fun _ _ _ _ => rfl) rfl hLo rfl rfl rfl rfl (by rfl) (fun b G w _ _ => by kernel_rfl)) ?_
    refine zA (zC 1 _ rfl rfl hLo rfl rfl (fun _ _ _ _ => rfl) (fun b G w hb ho => zF (.inr rfl) (rfl))) ?_
    exact zE
  clear hLo
  intro G a1 w1 hS hH
  have HS1 : Sl a1 73 [(0, .string (sOf b)), (2, .pointer (some ⟨(G 0), 0, none⟩)), (3, .bool false)] := hS
  have HH1 : Held w w1 [⟨(G 0), .i64, 64, fun _ => 0, 52⟩] := hH
  clear hS hH HS0 HH0
  generalize G 0 = g1_0 at HS1 HH1
  refine then_ ?_
  refine wp_seq ?_
  have hLo : LOk [(0, 13, .val (.string (sOf b))), (1, 14, .val (.int .u8 (b 31))), (2, 15, .val (.bool r3)), (3, 4, .val (.bool r3))] := lok rfl rfl
  refine zJ (wE := w) (sz := 73) (n := 4) [0, 1, 3, 7] [(0, .val (.string (sOf b))), (2, .val (.pointer (some ⟨g1_0, 0, none⟩))), (3, .val (.bool false)), (4, .val (.bool r3))] _ [⟨g1_0, none, none, .i64, 64, fun _ => 0, fun _ => 0, 52⟩] rfl (by rfl) HH1 rfl rfl hLo rfl HS1 (slS 0 rfl rfl (slS 1 rfl rfl (slS 2 rfl rfl (slL 3 (d := 3) rfl (trivial))))) ?_ ?_
  · show ∀ i ∈ [0, 1, 2, 3], _
    refine zA (zC 0 _ rfl rfl hLo rfl rfl (fun _ _ _ _ => rfl) (fun b G w hb ho => zF (.inl rfl) (zD rfl (HS1.get 0 rfl)))) ?_
    refine zA (zC 1 _ rfl rfl hLo rfl rfl (fun _ _ _ _ => rfl) (fun b G w hb ho => exec_index rfl (zB hLo 0 rfl HS1.1 rfl (hb 0 (by rfl))) rfl (hI _))) ?_
    refine zA (zC 2 _ rfl rfl hLo rfl rfl (fun _ _ _ _ => rfl) (fun b G w hb ho => zV rfl (zB hLo 1 rfl HS1.1 rfl (hb 1 (by rfl))) (rfl) (geq_run hr3 _ _ _))) ?_
    refine zA (zC 3 _ rfl rfl hLo rfl rfl (fun _ _ _ _ => rfl) (fun b G w hb ho => zF (.inr rfl) (zB hLo 2 rfl HS1.1 rfl (hb 2 (by rfl))))) ?_
    exact zE
  clear hLo
  intro G a2 w2 hS hH
  have HS2 : Sl a2 73 [(0, .string (sOf b)), (2, .pointer (some ⟨g1_0, 0, none⟩)), (3, .bool false), (4, .bool r3)] := hS
  have HH2 : Held w w2 [⟨g1_0, .i64, 64, fun _ => 0, 52⟩] := hH
  clear hS hH HS1 HH1
  refine then_ ?_
  refine wp_seq ?_
  have hLo : LOk [(0, 16, .val (.string (sOf b))), (1, 17, .val (.string ((sOf b).extract 0 31))), (2, 18, .val (.string (sOf b))), (3, 19, .val (.int .u8 (b 31))), (4, 20, .val (.int .u8 (b 31 % 128))), (5, 21, .sl 5 1 1), (6, 22, .val (.string (strOfNums [b 31 % 128]))), (7, 23, .val (.string (sOf (lowR b)))), (8, 5, .val (.string (sOf (lowR b))))] := lok rfl rfl
  refine yK (wE := w) (sz := 73) (n := 9) (B := [0, 1, 0, 4, 12, 28, 60, 127, 255]) [0, 1, 2, 3, 4, 5, 6, 7, 8] [(2, .val (.pointer (some ⟨g1_0, 0, none⟩))), (3, .val (.bool false)), (4, .val (.bool r3)), (5, .val (.string (sOf (lowR b))))] _ [⟨g1_0, none, none, .i64, 64, fun _ => 0, fun _ => 0, 52⟩, ⟨0, some 5, none, .u8, 1, fun _ => b 31 % 128, fun _ => b 31 % 128, 5⟩] (by rfl) rfl tabdecR_2 bitsdecR_2 (by kernel_rfl) (by kernel_rfl) HH2 rfl rfl hLo rfl HS2 (slS 1 rfl rfl (slS 2 rfl rfl (slS 3 rfl rfl (slL 8 (d := 8) rfl (trivial))))) ?_ ?_
  · show ∀ i ∈ [0, 1, 2, 3, 4, 5, 6, 7, 8], _
    refine zA (zC 0 _ rfl rfl hLo rfl rfl (fun _ _ _ _ => rfl) (fun b G w hb ho => zF (.inl rfl) (zD rfl (HS2.get 0 rfl)))) ?_
    refine zA (zC 1 _ rfl rfl hLo rfl rfl (fun _ _ _ _ => rfl) (fun b G w hb ho => exec_slice rfl (zB hLo 0 rfl HS2.1 rfl (hb 0 (by rfl))) rfl rfl rfl (slice31 _ _))) ?_
    refine zA (zC 2 _ rfl rfl hLo rfl rfl (fun _ _ _ _ => rfl) (fun b G w hb ho => zF (.inl rfl) (zD rfl (HS2.get 0 rfl)))) ?_
    refine zA (zC 3 _ rfl rfl hLo rfl rfl (fun _ _ _ _ => rfl) (fun b G w hb ho => exec_index rfl (zB hLo 2 rfl HS2.1 rfl (hb 2 (by rfl))) rfl (hI _))) ?_
    refine zA (zC 4 _ rfl rfl hLo rfl rfl (fun _ _ _ _ => rfl) (fun b G w hb ho => zV rfl (zB hLo 3 rfl HS2.1 rfl (hb 3 (by rfl))) (rfl) (rem128_run hB31 _ _ _))) ?_
    refine zA (zK 5 1 .u8 1 5 none _ _ rfl rfl (fun _ _ _ _ => rfl) rfl hLo rfl rfl rfl rfl (by rfl) (fun b G w hb ho => exec_buildSlice rfl (parts1 (zB hLo 4 rfl HS2.1 rfl (hb 4 (by rfl)))) (by kernel_rfl))) ?_
    refine zA (st_read 6 1 _ _ rfl rfl rfl hLo rfl rfl (fun _ _ _ _ => rfl) (by rfl) (by rfl) (fun b G w hb ho hr => exec_convert rfl (zB hLo 5 rfl HS2.1 rfl (hb 5 (by rfl))) (conv1 hr))) ?_
    refine zA (zC 7 _ rfl rfl hLo rfl rfl (fun _ _ _ _ => rfl) (fun b G w hb ho => zV rfl (zB hLo 1 rfl HS2.1 rfl (hb 1 (by rfl))) (zB hLo 6 rfl HS2.1 rfl (hb 6 (by rfl))) (addS_run hsz hlow _ _ _))) ?_
    refine zA (zC 8 _ rfl rfl hLo rfl rfl (fun _ _ _ _ => rfl) (fun b G w hb ho => zF (.inr rfl) (zB hLo 7 rfl HS2.1 rfl (hb 7 (by rfl))))) ?_
    exact zE
  clear hLo
  intro G a3 w3 hS hH
  have HS3 : Sl a3 73 [(2, .pointer (some ⟨g1_0, 0, none⟩)), (3, .bool false), (4, .bool r3), (5, .string (sOf (lowR b)))] := hS
  have HH3 : Held w w3 [⟨g1_0, .i64, 64, fun _ => 0, 52⟩, ⟨(G 5), .u8, 1, fun _ => b 31 % 128, 5⟩] := hH
  clear hS hH HS2 HH2
  generalize G 5 = g3_5 at HS3 HH3
  refine then_ ?_
  refine wp_seq ?_
  have hLo : LOk [(0, 24, .val (.string (sOf (lowR b)))), (1, 25, .val (.agg (FR .i64 16 (ry b)))), (2, 6, .ptr 2 0)] := lok rfl rfl
  refine zJ (wE := w) (sz := 73) (n := 4) [0, 1, 3, 7] [(2, .val (.pointer (some ⟨g1_0, 0, none⟩))), (3, .val (.bool false)), (4, .val (.bool r3)), (5, .val (.string (sOf (lowR b)))), (6, .ptr 2 0)] _ [⟨g1_0, none, none, .i64, 64, fun _ => 0, fun _ => 0, 52⟩, ⟨g3_5, none, none, .u8, 1, fun _ => b 31 % 128, fun _ => b 31 % 128, 5⟩, ⟨0, some 2, some 3, .i64, 16, fun _ => 0, ry b, 50⟩] rfl (by rfl) HH3 rfl rfl hLo rfl HS3 (slS 0 rfl rfl (slS 1 rfl rfl (slS 2 rfl rfl (slS 3 rfl rfl (slL 2 (d := 2) rfl (trivial)))))) ?_ ?_
  · show ∀ i ∈ [0, 1, 2, 3], _
    refine zA (zC 0 _ rfl rfl hLo rfl rfl (fun _ _ _ _ => rfl) (fun b G w hb ho => zF (.inl rfl) (zD rfl (HS3.get 3 rfl)))) ?_
    refine zA (zH 1 _ #[.string (sOf (lowR b))] rfl rfl rfl (fun _ _ _ _ => rfl) hLo rfl rfl Tryd.func58 rfl rfl (fun b G hb ho => args1 (zB hLo 0 rfl HS3.1 rfl (hb 0 (by rfl)))) (fun w hw => ofR_c _ w (lowR_By hb))) ?_
    refine zA (zK 2 2 .i64 16 50 (some 3) _ _ rfl rfl (fun _ _ _ _ => rfl) rfl hLo rfl rfl rfl rfl (by rfl) (fun b G w _ _ => by kernel_rfl)) ?_
    refine zA (zI 2 _ rfl rfl rfl rfl rfl (fun _ _ _ _ => rfl) rfl rfl rfl (by rfl) zL (fun b G hb ho => zB hLo 2 rfl HS3.1 rfl (hb 2 (by rfl))) (fun b G hb ho => zB hLo 1 rfl HS3.1 rfl (hb 1 (by rfl)))) ?_
    exact zE
  clear hLo
  intro G a4 w4 hS hH
  have HS4 : Sl a4 73 [(2, .pointer (some ⟨g1_0, 0, none⟩)), (3, .bool false), (4, .bool r3), (5, .string (sOf (lowR b))), (6, .pointer (some ⟨(G 2), 0, none⟩))] := hS
  have HH4 : Held w w4 [⟨g1_0, .i64, 64, fun _ => 0, 52⟩, ⟨g3_5, .u8, 1, fun _ => b 31 % 128, 5⟩, ⟨(G 2), .i64, 16, ry b, 50⟩] := hH
  clear hS hH HS3 HH3
  generalize G 2 = g4_2 at HS4 HH4
  refine then_ ?_
  cases r1
  · skip
    refine wp_seq ?_
    refine wp_seq ?_
    have hLo : LOk [(0, 26, .val (.agg (FR .i64 16 (ry b)))), (1, 27, .val (.string (sOf (dig 256 (V16 (ry b) % PP))))), (2, 28, .val (.string (sOf (lowR b)))), (3, 29, .val (.bool true))] := lok rfl rfl
    refine zJ (wE := w) (sz := 73) (n := 4) [0, 1, 3, 7] [(2, .val (.pointer (some ⟨g1_0, 0, none⟩))), (3, .val (.bool false)), (29, .val (.bool true))] _ [⟨g1_0, none, none, .i64, 64, fun _ => 0, fun _ => 0, 52⟩, ⟨g3_5, none, none, .u8, 1, fun _ => b 31 % 128, fun _ => b 31 % 128, 5⟩, ⟨g4_2, none, none, .i64, 16, ry b, ry b, 50⟩] rfl (by rfl) HH4 rfl rfl hLo rfl HS4 (slS 0 rfl rfl (slS 1 rfl rfl (slL 3 (d := 3) rfl (trivial)))) ?_ ?_
    · show ∀ i ∈ [0, 1, 2, 3], _
      refine zA (zG 0 2 _ rfl rfl rfl rfl (fun _ _ _ _ => rfl) hLo rfl rfl rfl (by rfl) Tryd.underlying50 zL rfl (fun b G hb ho => zD rfl (HS4.get 4 rfl))) ?_
      refine zA (zH 1 _ #[.agg (FR .i64 16 (ry b))] rfl rfl rfl (fun _ _ _ _ => rfl) hLo rfl rfl Tryd.func44 rfl rfl (fun b G hb ho => args1 (zB hLo 0 rfl HS4.1 rfl (hb 0 (by rfl)))) (fun w hw => bytesR_c _ w (ry_Rn hb))) ?_
      refine zA (zC 2 _ rfl rfl hLo rfl rfl (fun _ _ _ _ => rfl) (fun b G w hb ho => zF (.inl rfl) (zD rfl (HS4.get 3 rfl)))) ?_
      refine zA (zC 3 _ rfl rfl hLo rfl rfl (fun _ _ _ _ => rfl) (fun b G w hb ho => zV rfl (zB hLo 1 rfl HS4.1 rfl (hb 1 (by rfl))) (zB hLo 2 rfl HS4.1 rfl (hb 2 (by rfl))) (neqS_run hr1 _ _ _))) ?_
      exact zE
    clear hLo
    intro G a5 w5 hS hH
    have HS5 : Sl a5 73 [(2, .pointer (some ⟨g1_0, 0, none⟩)), (3, .bool false), (29, .bool true)] := hS
    have HH5 : Held w w5 [⟨g1_0, .i64, 64, fun _ => 0, 52⟩, ⟨g3_5, .u8, 1, fun _ => b 31 % 128, 5⟩, ⟨g4_2, .i64, 16, ry b, 50⟩] := hH
    clear hS hH HS4 HH4
    refine then_ ?_
    refine wp_cond_true (HS5.get 2 rfl) ?_
    refine wp_seq ?_
    have hLo : LOk [(0, 30, .val (.agg (FR .i64 64 (fun _ => 0)))), (2, 3, .val (.bool false))] := lok rfl rfl
    refine zJ (wE := w) (sz := 73) (n := 3) [0, 1, 3] [(2, .val (.pointer (some ⟨g1_0, 0, none⟩))), (3, .val (.bool false))] _ [⟨g1_0, none, some 1, .i64, 64, fun _ => 0, fun _ => 0, 52⟩, ⟨g3_5, none, none, .u8, 1, fun _ => b 31 % 128, fun _ => b 31 % 128, 5⟩, ⟨g4_2, none, none, .i64, 16, ry b, ry b, 50⟩] rfl (by rfl) HH5 rfl rfl hLo rfl HS5 (slS 0 rfl rfl (slL 1 (d := 2) rfl (trivial))) ?_ ?_
    · show ∀ i ∈ [0, 1, 2], _
      refine zA (zC 0 _ rfl rfl hLo rfl rfl (fun _ _ _ _ => rfl) (fun b G w hb ho => zZ rfl (parts0 ) (by kernel_rfl))) ?_
      refine zA (zI 0 _ rfl rfl rfl rfl rfl (fun _ _ _ _ => rfl) rfl rfl rfl (by rfl) infoPr (fun b G hb ho => zD rfl (HS5.get 0 rfl)) (fun b G hb ho => zB hLo 0 rfl HS5.1 rfl (hb 0 (by rfl)))) ?_
      refine zA (zC 1 _ rfl rfl hLo rfl rfl (fun _ _ _ _ => rfl) (fun b G w hb ho => zF (.inr rfl) (rfl))) ?_
      exact zE
    clear hLo
    intro G a6 w6 hS hH
    have HS6 : Sl a6 73 [(2, .pointer (some ⟨g1_0, 0, none⟩)), (3, .bool false)] := hS
    have HH6 : Held w w6 [⟨g1_0, .i64, 64, fun _ => 0, 52⟩, ⟨g3_5, .u8, 1, fun _ => b 31 % 128, 5⟩, ⟨g4_2, .i64, 16, ry b, 50⟩] := hH
    clear hS hH HS5 HH5
    refine then_ ?_
    refine wp_ret ?_
    repeat refine yC ?_
    exact b_row2 rfl HS6.2.1 (HS6.get 0 rfl) (HS6.get 1 rfl) (HH6.row 0 rfl) Tryd.underlying52 rfl infoPr ⟨by rw [decRP_n (by unfold decROk; rw [hr1]; rfl), show decROk b = false by unfold decROk; rw [hr1]; rfl], HH6.1⟩
  · skip
    refine wp_seq ?_
    refine wp_seq ?_
    have hLo : LOk [(0, 26, .val (.agg (FR .i64 16 (ry b)))), (1, 27, .val (.string (sOf (dig 256 (V16 (ry b) % PP))))), (2, 28, .val (.string (sOf (lowR b)))), (3, 29, .val (.bool false))] := lok rfl rfl
    refine zJ (wE := w) (sz := 73) (n := 4) [0, 1, 3, 7] [(2, .val (.pointer (some ⟨g1_0, 0, none⟩))), (3, .val (.bool false)), (4, .val (.bool r3)), (6, .val (.pointer (some ⟨g4_2, 0, none⟩))), (29, .val (.bool false))] _ [⟨g1_0, none, none, .i64, 64, fun _ => 0, fun _ => 0, 52⟩, ⟨g3_5, none, none, .u8, 1, fun _ => b 31 % 128, fun _ => b 31 % 128, 5⟩, ⟨g4_2, none, none, .i64, 16, ry b, ry b, 50⟩] rfl (by rfl) HH4 rfl rfl hLo rfl HS4 (slS 0 rfl rfl (slS 1 rfl rfl (slS 2 rfl rfl (slS 4 rfl rfl (slL 3 (d := 3) rfl (trivial)))))) ?_ ?_
    · show ∀ i ∈ [0, 1, 2, 3], _
      refine zA (zG 0 2 _ rfl rfl rfl rfl (fun _ _ _ _ => rfl) hLo rfl rfl rfl (by rfl) Tryd.underlying50 zL rfl (fun b G hb ho => zD rfl (HS4.get 4 rfl))) ?_
      refine zA (zH 1 _ #[.agg (FR .i64 16 (ry b))] rfl rfl rfl (fun _ _ _ _ => rfl) hLo rfl rfl Tryd.func44 rfl rfl (fun b G hb ho => args1 (zB hLo 0 rfl HS4.1 rfl (hb 0 (by rfl)))) (fun w hw => bytesR_c _ w (ry_Rn hb))) ?_
      refine zA (zC 2 _ rfl rfl hLo rfl rfl (fun _ _ _ _ => rfl) (fun b G w hb ho => zF (.inl rfl) (zD rfl (HS4.get 3 rfl)))) ?_
      refine zA (zC 3 _ rfl rfl hLo rfl rfl (fun _ _ _ _ => rfl) (fun b G w hb ho => zV rfl (zB hLo 1 rfl HS4.1 rfl (hb 1 (by rfl))) (zB hLo 2 rfl HS4.1 rfl (hb 2 (by rfl))) (neqS_run hr1 _ _ _))) ?_
      exact zE
    clear hLo
    intro G a7 w7 hS hH
    have HS7 : Sl a7 73 [(2, .pointer (some ⟨g1_0, 0, none⟩)), (3, .bool false), (4, .bool r3), (6, .pointer (some ⟨g4_2, 0, none⟩)), (29, .bool false)] := hS
    have HH7 : Held w w7 [⟨g1_0, .i64, 64, fun _ => 0, 52⟩, ⟨g3_5, .u8, 1, fun _ => b 31 % 128, 5⟩, ⟨g4_2, .i64, 16, ry b, 50⟩] := hH
    clear hS hH HS4 HH4
    refine then_ ?_
    refine wp_cond_false (HS7.get 4 rfl) ?_
    refine wp_skip ?_
    refine then_ ?_
    refine wp_seq ?_
    have hLo : LOk [(0, 31, .val (.agg (FR .i64 16 (zM (fun i => if i = 0 then 1 else 0) 16)))), (1, 7, .ptr 1 0)] := lok rfl rfl
    refine zJ (wE := w) (sz := 73) (n := 3) [0, 1, 3] [(2, .val (.pointer (some ⟨g1_0, 0, none⟩))), (4, .val (.bool r3)), (6, .val (.pointer (some ⟨g4_2, 0, none⟩))), (7, .ptr 1 0)] _ [⟨g1_0, none, none, .i64, 64, fun _ => 0, fun _ => 0, 52⟩, ⟨g3_5, none, none, .u8, 1, fun _ => b 31 % 128, fun _ => b 31 % 128, 5⟩, ⟨g4_2, none, none, .i64, 16, ry b, ry b, 50⟩, ⟨0, some 1, some 2, .i64, 16, fun _ => 0, zM (fun i => if i = 0 then 1 else 0) 16, 50⟩] rfl (by rfl) HH7 rfl rfl hLo rfl HS7 (slS 0 rfl rfl (slS 2 rfl rfl (slS 3 rfl rfl (slL 1 (d := 1) rfl (trivial))))) ?_ ?_
    · show ∀ i ∈ [0, 1, 2], _
      refine zA (zH 0 _ #[.int .i64 1] rfl rfl rfl (fun _ _ _ _ => rfl) hLo rfl rfl Tryd.func59 rfl rfl (fun b G hb ho => args1 (rfl)) (fun w hw => small_ref_calls 1 w (by omega))) ?_
      refine zA (zK 1 3 .i64 16 50 (some 2) _ _ rfl rfl (fun _ _ _ _ => rfl) rfl hLo rfl rfl rfl rfl (by rfl) (fun b G w _ _ => by kernel_rfl)) ?_
      refine zA (zI 3 _ rfl rfl rfl rfl rfl (fun _ _ _ _ => rfl) rfl rfl rfl (by rfl) zL (fun b G hb ho => zB hLo 1 rfl HS7.1 rfl (hb 1 (by rfl))) (fun b G hb ho => zB hLo 0 rfl HS7.1 rfl (hb 0 (by rfl)))) ?_
      exact zE
    clear hLo
    intro G a8 w8 hS hH
    have HS8 : Sl a8 73 [(2, .pointer (some ⟨g1_0, 0, none⟩)), (4, .bool r3), (6, .pointer (some ⟨g4_2, 0, none⟩)), (7, .pointer (some ⟨(G 1), 0, none⟩))] := hS
    have HH8 : Held w w8 [⟨g1_0, .i64, 64, fun _ => 0, 52⟩, ⟨g3_5, .u8, 1, fun _ => b 31 % 128, 5⟩, ⟨g4_2, .i64, 16, ry b, 50⟩, ⟨(G 1), .i64, 16, oneR, 50⟩] := hH
    clear hS hH HS7 HH7
    generalize G 1 = g8_1 at HS8 HH8
    refine then_ ?_
    refine wp_seq ?_
    have hLo : LOk [(0, 32, .val (.agg (FR .i64 16 (ry b)))), (1, 33, .val (.agg (FR .i64 16 (ry b)))), (2, 34, .val (.agg (FR .i64 16 (mulR (ry b) (ry b))))), (3, 8, .ptr 3 0)] := lok rfl rfl
    refine zJ (wE := w) (sz := 73) (n := 5) [0, 1, 3, 7, 15] [(2, .val (.pointer (some ⟨g1_0, 0, none⟩))), (4, .val (.bool r3)), (6, .val (.pointer (some ⟨g4_2, 0, none⟩))), (7, .val (.pointer (some ⟨g8_1, 0, none⟩))), (8, .ptr 3 0)] _ [⟨g1_0, none, none, .i64, 64, fun _ => 0, fun _ => 0, 52⟩, ⟨g3_5, none, none, .u8, 1, fun _ => b 31 % 128, fun _ => b 31 % 128, 5⟩, ⟨g4_2, none, none, .i64, 16, ry b, ry b, 50⟩, ⟨g8_1, none, none, .i64, 16, oneR, oneR, 50⟩, ⟨0, some 3, some 4, .i64, 16, fun _ => 0, mulR (ry b) (ry b), 50⟩] rfl (by rfl) HH8 rfl rfl hLo rfl HS8 (slS 0 rfl rfl (slS 1 rfl rfl (slS 2 rfl rfl (slS 3 rfl rfl (slL 3 (d := 3) rfl (trivial)))))) ?_ ?_
    · show ∀ i ∈ [0, 1, 2, 3, 4], _
      refine zA (zG 0 2 _ rfl rfl rfl rfl (fun _ _ _ _ => rfl) hLo rfl rfl rfl (by rfl) Tryd.underlying50 zL rfl (fun b G hb ho => zD rfl (HS8.get 2 rfl))) ?_
      refine zA (zG 1 2 _ rfl rfl rfl rfl (fun _ _ _ _ => rfl) hLo rfl rfl rfl (by rfl) Tryd.underlying50 zL rfl (fun b G hb ho => zD rfl (HS8.get 2 rfl))) ?_
      refine zA (zH 2 _ #[.agg (FR .i64 16 (ry b)), .agg (FR .i64 16 (ry b))] rfl rfl rfl (fun _ _ _ _ => rfl) hLo rfl rfl Tryd.func45 rfl rfl (fun b G hb ho => zU (zB hLo 0 rfl HS8.1 rfl (hb 0 (by rfl))) (zB hLo 1 rfl HS8.1 rfl (hb 1 (by rfl)))) (fun w hw => mulR_c _ _ w (ry_Rn hb) (ry_Rn hb))) ?_
      refine zA (zK 3 4 .i64 16 50 (some 4) _ _ rfl rfl (fun _ _ _ _ => rfl) rfl hLo rfl rfl rfl rfl (by rfl) (fun b G w _ _ => by kernel_rfl)) ?_
      refine zA (zI 4 _ rfl rfl rfl rfl rfl (fun _ _ _ _ => rfl) rfl rfl rfl (by rfl) zL (fun b G hb ho => zB hLo 3 rfl HS8.1 rfl (hb 3 (by rfl))) (fun b G hb ho => zB hLo 2 rfl HS8.1 rfl (hb 2 (by rfl)))) ?_
      exact zE
    clear hLo
    intro G a9 w9 hS hH
    have HS9 : Sl a9 73 [(2, .pointer (some ⟨g1_0, 0, none⟩)), (4, .bool r3), (6, .pointer (some ⟨g4_2, 0, none⟩)), (7, .pointer (some ⟨g8_1, 0, none⟩)), (8, .pointer (some ⟨(G 3), 0, none⟩))] := hS
    have HH9 : Held w w9 [⟨g1_0, .i64, 64, fun _ => 0, 52⟩, ⟨g3_5, .u8, 1, fun _ => b 31 % 128, 5⟩, ⟨g4_2, .i64, 16, ry b, 50⟩, ⟨g8_1, .i64, 16, oneR, 50⟩, ⟨(G 3), .i64, 16, rsq b, 50⟩] := hH
    clear hS hH HS8 HH8
    generalize G 3 = g9_3 at HS9 HH9
    refine then_ ?_
    refine wp_seq ?_
    have hLo : LOk [(0, 35, .val (.agg (FR .i64 16 (rsq b)))), (1, 36, .val (.agg (FR .i64 16 (oneR)))), (2, 37, .val (.agg (FR .i64 16 (subR (rsq b) (oneR))))), (3, 9, .ptr 3 0)] := lok rfl rfl
    refine zJ (wE := w) (sz := 73) (n := 5) [0, 1, 3, 7, 15] [(2, .val (.pointer (some ⟨g1_0, 0, none⟩))), (4, .val (.bool r3)), (6, .val (.pointer (some ⟨g4_2, 0, none⟩))), (7, .val (.pointer (some ⟨g8_1, 0, none⟩))), (8, .val (.pointer (some ⟨g9_3, 0, none⟩))), (9, .ptr 3 0)] _ [⟨g1_0, none, none, .i64, 64, fun _ => 0, fun _ => 0, 52⟩, ⟨g3_5, none, none, .u8, 1, fun _ => b 31 % 128, fun _ => b 31 % 128, 5⟩, ⟨g4_2, none, none, .i64, 16, ry b, ry b, 50⟩, ⟨g8_1, none, none, .i64, 16, oneR, oneR, 50⟩, ⟨g9_3, none, none, .i64, 16, rsq b, rsq b, 50⟩, ⟨0, some 3, some 4, .i64, 16, fun _ => 0, subR (rsq b) (oneR), 50⟩] rfl (by rfl) HH9 rfl rfl hLo rfl HS9 (slS 0 rfl rfl (slS 1 rfl rfl (slS 2 rfl rfl (slS 3 rfl rfl (slS 4 rfl rfl (slL 3 (d := 3) rfl (trivial))))))) ?_ ?_
    · show ∀ i ∈ [0, 1, 2, 3, 4], _
      refine zA (zG 0 4 _ rfl rfl rfl rfl (fun _ _ _ _ => rfl) hLo rfl rfl rfl (by rfl) Tryd.underlying50 zL rfl (fun b G hb ho => zD rfl (HS9.get 4 rfl))) ?_
      refine zA (zG 1 3 _ rfl rfl rfl rfl (fun _ _ _ _ => rfl) hLo rfl rfl rfl (by rfl) Tryd.underlying50 zL rfl (fun b G hb ho => zD rfl (HS9.get 3 rfl))) ?_
      refine zA (zH 2 _ #[.agg (FR .i64 16 (rsq b)), .agg (FR .i64 16 (oneR))] rfl rfl rfl (fun _ _ _ _ => rfl) hLo rfl rfl Tryd.func60 rfl rfl (fun b G hb ho => zU (zB hLo 0 rfl HS9.1 rfl (hb 0 (by rfl))) (zB hLo 1 rfl HS9.1 rfl (hb 1 (by rfl)))) (fun w hw => subR_c _ _ w (rsq_Rn hb) oneR_Rn)) ?_
      refine zA (zK 3 5 .i64 16 50 (some 4) _ _ rfl rfl (fun _ _ _ _ => rfl) rfl hLo rfl rfl rfl rfl (by rfl) (fun b G w _ _ => by kernel_rfl)) ?_
      refine zA (zI 5 _ rfl rfl rfl rfl rfl (fun _ _ _ _ => rfl) rfl rfl rfl (by rfl) zL (fun b G hb ho => zB hLo 3 rfl HS9.1 rfl (hb 3 (by rfl))) (fun b G hb ho => zB hLo 2 rfl HS9.1 rfl (hb 2 (by rfl)))) ?_
      exact zE
    clear hLo
    intro G a10 w10 hS hH
    have HS10 : Sl a10 73 [(2, .pointer (some ⟨g1_0, 0, none⟩)), (4, .bool r3), (6, .pointer (some ⟨g4_2, 0, none⟩)), (7, .pointer (some ⟨g8_1, 0, none⟩)), (8, .pointer (some ⟨g9_3, 0, none⟩)), (9, .pointer (some ⟨(G 3), 0, none⟩))] := hS
    have HH10 : Held w w10 [⟨g1_0, .i64, 64, fun _ => 0, 52⟩, ⟨g3_5, .u8, 1, fun _ => b 31 % 128, 5⟩, ⟨g4_2, .i64, 16, ry b, 50⟩, ⟨g8_1, .i64, 16, oneR, 50⟩, ⟨g9_3, .i64, 16, rsq b, 50⟩, ⟨(G 3), .i64, 16, rup b, 50⟩] := hH
    clear hS hH HS9 HH9
    generalize G 3 = g10_3 at HS10 HH10
    refine then_ ?_
    refine wp_seq ?_
    have hLo : LOk [(0, 38, .val (.agg (FR .i64 16 (dR)))), (1, 39, .val (.agg (FR .i64 16 (rsq b)))), (2, 40, .val (.agg (FR .i64 16 (mulR (dR) (rsq b))))), (3, 41, .val (.agg (FR .i64 16 (oneR)))), (4, 42, .val (.agg (FR .i64 16 (addR (mulR (dR) (rsq b)) (oneR))))), (5, 10, .ptr 5 0)] := lok rfl rfl
    refine yK (wE := w) (sz := 73) (n := 7) (B := [0, 0, 3, 0, 15, 0, 63]) [0, 1, 2, 3, 4, 5, 6] [(2, .val (.pointer (some ⟨g1_0, 0, none⟩))), (4, .val (.bool r3)), (6, .val (.pointer (some ⟨g4_2, 0, none⟩))), (7, .val (.pointer (some ⟨g8_1, 0, none⟩))), (9, .val (.pointer (some ⟨g10_3, 0, none⟩))), (10, .ptr 5 0)] _ [⟨g1_0, none, none, .i64, 64, fun _ => 0, fun _ => 0, 52⟩, ⟨g3_5, none, none, .u8, 1, fun _ => b 31 % 128, fun _ => b 31 % 128, 5⟩, ⟨g4_2, none, none, .i64, 16, ry b, ry b, 50⟩, ⟨g8_1, none, none, .i64, 16, oneR, oneR, 50⟩, ⟨g9_3, none, none, .i64, 16, rsq b, rsq b, 50⟩, ⟨g10_3, none, none, .i64, 16, rup b, rup b, 50⟩, ⟨0, some 5, some 6, .i64, 16, fun _ => 0, addR (mulR (dR) (rsq b)) (oneR), 50⟩] (by rfl) rfl tabdecR_9 bitsdecR_9 (by kernel_rfl) (by kernel_rfl) HH10 rfl rfl hLo rfl HS10 (slS 0 rfl rfl (slS 1 rfl rfl (slS 2 rfl rfl (slS 3 rfl rfl (slS 5 rfl rfl (slL 5 (d := 5) rfl (trivial))))))) ?_ ?_
    · show ∀ i ∈ [0, 1, 2, 3, 4, 5, 6], _
      refine zA (zH 0 _ #[] rfl rfl rfl (fun _ _ _ _ => rfl) hLo rfl rfl Tryd.func62 rfl rfl (fun b G hb ho => args0 ) (fun w hw => D_calls w)) ?_
      refine zA (zG 1 4 _ rfl rfl rfl rfl (fun _ _ _ _ => rfl) hLo rfl rfl rfl (by rfl) Tryd.underlying50 zL rfl (fun b G hb ho => zD rfl (HS10.get 4 rfl))) ?_
      refine zA (zH 2 _ #[.agg (FR .i64 16 (dR)), .agg (FR .i64 16 (rsq b))] rfl rfl rfl (fun _ _ _ _ => rfl) hLo rfl rfl Tryd.func45 rfl rfl (fun b G hb ho => zU (zB hLo 0 rfl HS10.1 rfl (hb 0 (by rfl))) (zB hLo 1 rfl HS10.1 rfl (hb 1 (by rfl)))) (fun w hw => mulR_c _ _ w dR_Rn (rsq_Rn hb))) ?_
      refine zA (zG 3 3 _ rfl rfl rfl rfl (fun _ _ _ _ => rfl) hLo rfl rfl rfl (by rfl) Tryd.underlying50 zL rfl (fun b G hb ho => zD rfl (HS10.get 3 rfl))) ?_
      refine zA (zH 4 _ #[.agg (FR .i64 16 (mulR (dR) (rsq b))), .agg (FR .i64 16 (oneR))] rfl rfl rfl (fun _ _ _ _ => rfl) hLo rfl rfl Tryd.func61 rfl rfl (fun b G hb ho => zU (zB hLo 2 rfl HS10.1 rfl (hb 2 (by rfl))) (zB hLo 3 rfl HS10.1 rfl (hb 3 (by rfl)))) (fun w hw => addR_c _ _ w (rmul dR_Rn (rsq_Rn hb)) oneR_Rn)) ?_
      refine zA (zK 5 6 .i64 16 50 (some 6) _ _ rfl rfl (fun _ _ _ _ => rfl) rfl hLo rfl rfl rfl rfl (by rfl) (fun b G w _ _ => by kernel_rfl)) ?_
      refine zA (zI 6 _ rfl rfl rfl rfl rfl (fun _ _ _ _ => rfl) rfl rfl rfl (by rfl) zL (fun b G hb ho => zB hLo 5 rfl HS10.1 rfl (hb 5 (by rfl))) (fun b G hb ho => zB hLo 4 rfl HS10.1 rfl (hb 4 (by rfl)))) ?_
      exact zE
    clear hLo
    intro G a11 w11 hS hH
    have HS11 : Sl a11 73 [(2, .pointer (some ⟨g1_0, 0, none⟩)), (4, .bool r3), (6, .pointer (some ⟨g4_2, 0, none⟩)), (7, .pointer (some ⟨g8_1, 0, none⟩)), (9, .pointer (some ⟨g10_3, 0, none⟩)), (10, .pointer (some ⟨(G 5), 0, none⟩))] := hS
    have HH11 : Held w w11 [⟨g1_0, .i64, 64, fun _ => 0, 52⟩, ⟨g3_5, .u8, 1, fun _ => b 31 % 128, 5⟩, ⟨g4_2, .i64, 16, ry b, 50⟩, ⟨g8_1, .i64, 16, oneR, 50⟩, ⟨g9_3, .i64, 16, rsq b, 50⟩, ⟨g10_3, .i64, 16, rup b, 50⟩, ⟨(G 5), .i64, 16, rdn b, 50⟩] := hH
    clear hS hH HS10 HH10
    generalize G 5 = g11_5 at HS11 HH11
    refine then_ ?_
    refine wp_seq ?_
    have hLo : LOk [(0, 44, .val (.agg (FR .i64 16 (rup b)))), (1, 45, .val (.agg (FR .i64 16 (rdn b)))), (2, 46, .val (.agg (FR .i64 16 (invR (rdn b))))), (3, 47, .val (.agg (FR .i64 16 (mulR (rup b) (invR (rdn b)))))), (4, 48, .val (.tuple #[.agg (FR .i64 16 (X)), .bool r2])), (5, 43, .val (.tuple #[.agg (FR .i64 16 (X)), .bool r2])), (6, 49, .val (.agg (FR .i64 16 (X)))), (7, 50, .val (.bool r2)), (8, 11, .ptr 8 0), (10, 12, .val (.bool r2))] := lok rfl rfl
    refine yK (wE := w) (sz := 73) (n := 11) (B := [0, 0, 2, 7, 15, 31, 63, 63, 0, 383, 1023]) [0, 1, 2, 3, 4, 5, 6, 7, 8, 9, 10] [(2, .val (.pointer (some ⟨g1_0, 0, none⟩))), (4, .val (.bool r3)), (6, .val (.pointer (some ⟨g4_2, 0, none⟩))), (7, .val (.pointer (some ⟨g8_1, 0, none⟩))), (11, .ptr 8 0), (12, .val (.bool r2))] _ [⟨g1_0, none, none, .i64, 64, fun _ => 0, fun _ => 0, 52⟩, ⟨g3_5, none, none, .u8, 1, fun _ => b 31 % 128, fun _ => b 31 % 128, 5⟩, ⟨g4_2, none, none, .i64, 16, ry b, ry b, 50⟩, ⟨g8_1, none, none, .i64, 16, oneR, oneR, 50⟩, ⟨g9_3, none, none, .i64, 16, rsq b, rsq b, 50⟩, ⟨g10_3, none, none, .i64, 16, rup b, rup b, 50⟩, ⟨g11_5, none, none, .i64, 16, rdn b, rdn b, 50⟩, ⟨0, some 8, some 9, .i64, 16, fun _ => 0, X, 50⟩] (by rfl) rfl tabdecR_10 bitsdecR_10 (by kernel_rfl) (by kernel_rfl) HH11 rfl rfl hLo rfl HS11 (slS 0 rfl rfl (slS 1 rfl rfl (slS 2 rfl rfl (slS 3 rfl rfl (slL 8 (d := 8) rfl (slL 9 (d := 10) rfl (trivial))))))) ?_ ?_
    · show ∀ i ∈ [0, 1, 2, 3, 4, 5, 6, 7, 8, 9, 10], _
      refine zA (zG 0 5 _ rfl rfl rfl rfl (fun _ _ _ _ => rfl) hLo rfl rfl rfl (by rfl) Tryd.underlying50 zL rfl (fun b G hb ho => zD rfl (HS11.get 4 rfl))) ?_
      refine zA (zG 1 6 _ rfl rfl rfl rfl (fun _ _ _ _ => rfl) hLo rfl rfl rfl (by rfl) Tryd.underlying50 zL rfl (fun b G hb ho => zD rfl (HS11.get 5 rfl))) ?_
      refine zA (zH 2 _ #[.agg (FR .i64 16 (rdn b))] rfl rfl rfl (fun _ _ _ _ => rfl) hLo rfl rfl Tryd.func43 rfl rfl (fun b G hb ho => args1 (zB hLo 1 rfl HS11.1 rfl (hb 1 (by rfl)))) (fun w hw => invR_calls _ w (rdn_Rn hb))) ?_
      refine zA (zH 3 _ #[.agg (FR .i64 16 (rup b)), .agg (FR .i64 16 (invR (rdn b)))] rfl rfl rfl (fun _ _ _ _ => rfl) hLo rfl rfl Tryd.func45 rfl rfl (fun b G hb ho => zU (zB hLo 0 rfl HS11.1 rfl (hb 0 (by rfl))) (zB hLo 2 rfl HS11.1 rfl (hb 2 (by rfl)))) (fun w hw => mulR_c _ _ w (rup_Rn hb) (rinv (rdn_Rn hb)))) ?_
      refine zA (zH 4 _ #[.agg (FR .i64 16 (mulR (rup b) (invR (rdn b))))] rfl rfl rfl (fun _ _ _ _ => rfl) hLo rfl rfl Tryd.func63 rfl rfl (fun b G hb ho => args1 (zB hLo 3 rfl HS11.1 rfl (hb 3 (by rfl)))) (fun w hw => rootR_r (rq_Rn hb) hr2 hX w)) ?_
      refine zA (zC 5 _ rfl rfl hLo rfl rfl (fun _ _ _ _ => rfl) (fun b G w hb ho => zF (.inl rfl) (zB hLo 4 rfl HS11.1 rfl (hb 4 (by rfl))))) ?_
      refine zA (zC 6 _ rfl rfl hLo rfl rfl (fun _ _ _ _ => rfl) (fun b G w hb ho => exec_extract rfl (zB hLo 5 rfl HS11.1 rfl (hb 5 (by rfl))) (by rfl))) ?_
      refine zA (zC 7 _ rfl rfl hLo rfl rfl (fun _ _ _ _ => rfl) (fun b G w hb ho => exec_extract rfl (zB hLo 5 rfl HS11.1 rfl (hb 5 (by rfl))) (by rfl))) ?_
      refine zA (zK 8 7 .i64 16 50 (some 9) _ _ rfl rfl (fun _ _ _ _ => rfl) rfl hLo rfl rfl rfl rfl (by rfl) (fun b G w _ _ => by kernel_rfl)) ?_
      refine zA (zI 7 _ rfl rfl rfl rfl rfl (fun _ _ _ _ => rfl) rfl rfl rfl (by rfl) zL (fun b G hb ho => zB hLo 8 rfl HS11.1 rfl (hb 8 (by rfl))) (fun b G hb ho => zB hLo 6 rfl HS11.1 rfl (hb 6 (by rfl)))) ?_
      refine zA (zC 9 _ rfl rfl hLo rfl rfl (fun _ _ _ _ => rfl) (fun b G w hb ho => zF (.inr rfl) (zB hLo 7 rfl HS11.1 rfl (hb 7 (by rfl))))) ?_
      exact zE
    clear hLo
    intro G a12 w12 hS hH
    have HS12 : Sl a12 73 [(2, .pointer (some ⟨g1_0, 0, none⟩)), (4, .bool r3), (6, .pointer (some ⟨g4_2, 0, none⟩)), (7, .pointer (some ⟨g8_1, 0, none⟩)), (11, .pointer (some ⟨(G 8), 0, none⟩)), (12, .bool r2)] := hS
    have HH12 : Held w w12 [⟨g1_0, .i64, 64, fun _ => 0, 52⟩, ⟨g3_5, .u8, 1, fun _ => b 31 % 128, 5⟩, ⟨g4_2, .i64, 16, ry b, 50⟩, ⟨g8_1, .i64, 16, oneR, 50⟩, ⟨g9_3, .i64, 16, rsq b, 50⟩, ⟨g10_3, .i64, 16, rup b, 50⟩, ⟨g11_5, .i64, 16, rdn b, 50⟩, ⟨(G 8), .i64, 16, X, 50⟩] := hH
    clear hS hH HS11 HH11
    generalize G 8 = g12_8 at HS12 HH12
    refine then_ ?_
    cases r2
    · skip
      refine wp_seq ?_
      refine wp_seq ?_
      have hLo : LOk [(0, 51, .val (.bool false)), (1, 52, .val (.bool true)), (2, 53, .val (.bool true)), (3, 54, .val (undef)), (4, 55, .val (undef)), (5, 56, .val (undef)), (6, 57, .val (undef)), (7, 58, .val (undef)), (8, 59, .val (undef)), (9, 60, .val (.bool true))] := lok rfl rfl
      refine zJ (wE := w) (sz := 73) (n := 10) [0, 1, 3, 7, 15, 31, 63, 127, 255, 511] [(2, .val (.pointer (some ⟨g1_0, 0, none⟩))), (60, .val (.bool true))] _ [⟨g1_0, none, none, .i64, 64, fun _ => 0, fun _ => 0, 52⟩, ⟨g3_5, none, none, .u8, 1, fun _ => b 31 % 128, fun _ => b 31 % 128, 5⟩, ⟨g4_2, none, none, .i64, 16, ry b, ry b, 50⟩, ⟨g8_1, none, none, .i64, 16, oneR, oneR, 50⟩, ⟨g9_3, none, none, .i64, 16, rsq b, rsq b, 50⟩, ⟨g10_3, none, none, .i64, 16, rup b, rup b, 50⟩, ⟨g11_5, none, none, .i64, 16, rdn b, rdn b, 50⟩, ⟨g12_8, none, none, .i64, 16, X, X, 50⟩] rfl (by rfl) HH12 rfl rfl hLo rfl HS12 (slS 0 rfl rfl (slL 9 (d := 9) rfl (trivial))) ?_ ?_
      · show ∀ i ∈ [0, 1, 2, 3, 4, 5, 6, 7, 8, 9], _
        refine zA (zC 0 _ rfl rfl hLo rfl rfl (fun _ _ _ _ => rfl) (fun b G w hb ho => zF (.inl rfl) (zD rfl (HS12.get 5 rfl)))) ?_
        refine zA (zC 1 _ rfl rfl hLo rfl rfl (fun _ _ _ _ => rfl) (fun b G w hb ho => exec_un rfl (zB hLo 0 rfl HS12.1 rfl (hb 0 (by rfl))) (by rfl))) ?_
        refine zA (zC 2 _ rfl rfl hLo rfl rfl (fun _ _ _ _ => rfl) (fun b G w hb ho => zF (.inl rfl) (zB hLo 1 rfl HS12.1 rfl (hb 1 (by rfl))))) ?_
        refine zA (st_skip 3 rfl rfl hLo rfl rfl (fun b G hb ho => zN rfl rfl rfl HS12.1 rfl (zB hLo 2 rfl HS12.1 rfl (hb 2 (by rfl))) rfl)) ?_
        refine zA (st_skip 4 rfl rfl hLo rfl rfl (fun b G hb ho => zN rfl rfl rfl HS12.1 rfl (zB hLo 2 rfl HS12.1 rfl (hb 2 (by rfl))) rfl)) ?_
        refine zA (st_skip 5 rfl rfl hLo rfl rfl (fun b G hb ho => wanted_un rfl rfl rfl HS12.1 rfl (zB hLo 4 rfl HS12.1 rfl (hb 4 (by rfl))))) ?_
        refine zA (st_skip 6 rfl rfl hLo rfl rfl (fun b G hb ho => wanted_un rfl rfl rfl HS12.1 rfl (zB hLo 4 rfl HS12.1 rfl (hb 4 (by rfl))))) ?_
        refine zA (st_skip 7 rfl rfl hLo rfl rfl (fun b G hb ho => wanted_un rfl rfl rfl HS12.1 rfl (zB hLo 4 rfl HS12.1 rfl (hb 4 (by rfl))))) ?_
        refine zA (st_skip 8 rfl rfl hLo rfl rfl (fun b G hb ho => zN rfl rfl rfl HS12.1 rfl (zB hLo 2 rfl HS12.1 rfl (hb 2 (by rfl))) rfl)) ?_
        refine zA (zC 9 _ rfl rfl hLo rfl rfl (fun _ _ _ _ => rfl) (fun b G w hb ho => exec_pick rfl (zB hLo 2 rfl HS12.1 rfl (hb 2 (by rfl))) (rfl))) ?_
        exact zE
      clear hLo
      intro G a13 w13 hS hH
      have HS13 : Sl a13 73 [(2, .pointer (some ⟨g1_0, 0, none⟩)), (60, .bool true)] := hS
      have HH13 : Held w w13 [⟨g1_0, .i64, 64, fun _ => 0, 52⟩, ⟨g3_5, .u8, 1, fun _ => b 31 % 128, 5⟩, ⟨g4_2, .i64, 16, ry b, 50⟩, ⟨g8_1, .i64, 16, oneR, 50⟩, ⟨g9_3, .i64, 16, rsq b, 50⟩, ⟨g10_3, .i64, 16, rup b, 50⟩, ⟨g11_5, .i64, 16, rdn b, 50⟩, ⟨g12_8, .i64, 16, X, 50⟩] := hH
      clear hS hH HS12 HH12
      refine then_ ?_
      refine wp_cond_true (HS13.get 1 rfl) ?_
      refine wp_seq ?_
      have hLo : LOk [(0, 61, .val (.agg (FR .i64 64 (fun _ => 0)))), (2, 3, .val (.bool false))] := lok rfl rfl
      refine zJ (wE := w) (sz := 73) (n := 3) [0, 1, 3] [(2, .val (.pointer (some ⟨g1_0, 0, none⟩))), (3, .val (.bool false))] _ [⟨g1_0, none, some 1, .i64, 64, fun _ => 0, fun _ => 0, 52⟩, ⟨g3_5, none, none, .u8, 1, fun _ => b 31 % 128, fun _ => b 31 % 128, 5⟩, ⟨g4_2, none, none, .i64, 16, ry b, ry b, 50⟩, ⟨g8_1, none, none, .i64, 16, oneR, oneR, 50⟩, ⟨g9_3, none, none, .i64, 16, rsq b, rsq b, 50⟩, ⟨g10_3, none, none, .i64, 16, rup b, rup b, 50⟩, ⟨g11_5, none, none, .i64, 16, rdn b, rdn b, 50⟩, ⟨g12_8, none, none, .i64, 16, X, X, 50⟩] rfl (by rfl) HH13 rfl rfl hLo rfl HS13 (slS 0 rfl rfl (slL 1 (d := 2) rfl (trivial))) ?_ ?_
      · show ∀ i ∈ [0, 1, 2], _
        refine zA (zC 0 _ rfl rfl hLo rfl rfl (fun _ _ _ _ => rfl) (fun b G w hb ho => zZ rfl (parts0 ) (by kernel_rfl))) ?_
        refine zA (zI 0 _ rfl rfl rfl rfl rfl (fun _ _ _ _ => rfl) rfl rfl rfl (by rfl) infoPr (fun b G hb ho => zD rfl (HS13.get 0 rfl)) (fun b G hb ho => zB hLo 0 rfl HS13.1 rfl (hb 0 (by rfl)))) ?_
        refine zA (zC 1 _ rfl rfl hLo rfl rfl (fun _ _ _ _ => rfl) (fun b G w hb ho => zF (.inr rfl) (rfl))) ?_
        exact zE
      clear hLo
      intro G a14 w14 hS hH
      have HS14 : Sl a14 73 [(2, .pointer (some ⟨g1_0, 0, none⟩)), (3, .bool false)] := hS
      have HH14 : Held w w14 [⟨g1_0, .i64, 64, fun _ => 0, 52⟩, ⟨g3_5, .u8, 1, fun _ => b 31 % 128, 5⟩, ⟨g4_2, .i64, 16, ry b, 50⟩, ⟨g8_1, .i64, 16, oneR, 50⟩, ⟨g9_3, .i64, 16, rsq b, 50⟩, ⟨g10_3, .i64, 16, rup b, 50⟩, ⟨g11_5, .i64, 16, rdn b, 50⟩, ⟨g12_8, .i64, 16, X, 50⟩] := hH
      clear hS hH HS13 HH13
      refine then_ ?_
      refine wp_ret ?_
      repeat refine yC ?_
      exact b_row2 rfl HS14.2.1 (HS14.get 0 rfl) (HS14.get 1 rfl) (HH14.row 0 rfl) Tryd.underlying52 rfl infoPr ⟨by rw [decRP_n (by unfold decROk; rw [hr1, hr2]; rfl), show decROk b = false by unfold decROk; rw [hr1, hr2]; rfl], HH14.1⟩
    · skip
      cases r3
      · skip
        refine wp_seq ?_
        refine wp_seq ?_
        have hLo : LOk [(0, 51, .val (.bool true)), (1, 52, .val (.bool false)), (2, 53, .val (.bool false)), (3, 54, .val (.bool false)), (4, 55, .val (.bool false)), (5, 56, .val (undef)), (6, 57, .val (undef)), (7, 58, .val (undef)), (8, 59, .val (.bool false)), (9, 60, .val (.bool false))] := lok rfl rfl
        refine zJ (wE := w) (sz := 73) (n := 10) [0, 1, 3, 7, 15, 31, 63, 127, 255, 511] [(2, .val (.pointer (some ⟨g1_0, 0, none⟩))), (4, .val (.bool false)), (6, .val (.pointer (some ⟨g4_2, 0, none⟩))), (7, .val (.pointer (some ⟨g8_1, 0, none⟩))), (11, .val (.pointer (some ⟨g12_8, 0, none⟩))), (60, .val (.bool false))] _ [⟨g1_0, none, none, .i64, 64, fun _ => 0, fun _ => 0, 52⟩, ⟨g3_5, none, none, .u8, 1, fun _ => b 31 % 128, fun _ => b 31 % 128, 5⟩, ⟨g4_2, none, none, .i64, 16, ry b, ry b, 50⟩, ⟨g8_1, none, none, .i64, 16, oneR, oneR, 50⟩, ⟨g9_3, none, none, .i64, 16, rsq b, rsq b, 50⟩, ⟨g10_3, none, none, .i64, 16, rup b, rup b, 50⟩, ⟨g11_5, none, none, .i64, 16, rdn b, rdn b, 50⟩, ⟨g12_8, none, none, .i64, 16, X, X, 50⟩] rfl (by rfl) HH12 rfl rfl hLo rfl HS12 (slS 0 rfl rfl (slS 1 rfl rfl (slS 2 rfl rfl (slS 3 rfl rfl (slS 4 rfl rfl (slL 9 (d := 9) rfl (trivial))))))) ?_ ?_
        · show ∀ i ∈ [0, 1, 2, 3, 4, 5, 6, 7, 8, 9], _
          refine zA (zC 0 _ rfl rfl hLo rfl rfl (fun _ _ _ _ => rfl) (fun b G w hb ho => zF (.inl rfl) (zD rfl (HS12.get 5 rfl)))) ?_
          refine zA (zC 1 _ rfl rfl hLo rfl rfl (fun _ _ _ _ => rfl) (fun b G w hb ho => exec_un rfl (zB hLo 0 rfl HS12.1 rfl (hb 0 (by rfl))) (by rfl))) ?_
          refine zA (zC 2 _ rfl rfl hLo rfl rfl (fun _ _ _ _ => rfl) (fun b G w hb ho => zF (.inl rfl) (zB hLo 1 rfl HS12.1 rfl (hb 1 (by rfl))))) ?_
          refine zA (zC 3 _ rfl rfl hLo rfl rfl (fun b G hb ho => zN rfl rfl rfl HS12.1 rfl (zB hLo 2 rfl HS12.1 rfl (hb 2 (by rfl))) rfl) (fun b G w hb ho => zF (.inl rfl) (zD rfl (HS12.get 1 rfl)))) ?_
          refine zA (zC 4 _ rfl rfl hLo rfl rfl (fun b G hb ho => zN rfl rfl rfl HS12.1 rfl (zB hLo 2 rfl HS12.1 rfl (hb 2 (by rfl))) rfl) (fun b G w hb ho => zF (.inl rfl) (zB hLo 3 rfl HS12.1 rfl (hb 3 (by rfl))))) ?_
          refine zA (st_skip 5 rfl rfl hLo rfl rfl (fun b G hb ho => zN rfl rfl rfl HS12.1 rfl (zB hLo 4 rfl HS12.1 rfl (hb 4 (by rfl))) rfl)) ?_
          refine zA (st_skip 6 rfl rfl hLo rfl rfl (fun b G hb ho => zN rfl rfl rfl HS12.1 rfl (zB hLo 4 rfl HS12.1 rfl (hb 4 (by rfl))) rfl)) ?_
          refine zA (st_skip 7 rfl rfl hLo rfl rfl (fun b G hb ho => zN rfl rfl rfl HS12.1 rfl (zB hLo 4 rfl HS12.1 rfl (hb 4 (by rfl))) rfl)) ?_
          refine zA (zC 8 _ rfl rfl hLo rfl rfl (fun b G hb ho => zN rfl rfl rfl HS12.1 rfl (zB hLo 2 rfl HS12.1 rfl (hb 2 (by rfl))) rfl) (fun b G w hb ho => exec_pick rfl (zB hLo 4 rfl HS12.1 rfl (hb 4 (by rfl))) (rfl))) ?_
          refine zA (zC 9 _ rfl rfl hLo rfl rfl (fun _ _ _ _ => rfl) (fun b G w hb ho => exec_pick rfl (zB hLo 2 rfl HS12.1 rfl (hb 2 (by rfl))) (zB hLo 8 rfl HS12.1 rfl (hb 8 (by rfl))))) ?_
          exact zE
        clear hLo
        intro G a15 w15 hS hH
        have HS15 : Sl a15 73 [(2, .pointer (some ⟨g1_0, 0, none⟩)), (4, .bool false), (6, .pointer (some ⟨g4_2, 0, none⟩)), (7, .pointer (some ⟨g8_1, 0, none⟩)), (11, .pointer (some ⟨g12_8, 0, none⟩)), (60, .bool false)] := hS
        have HH15 : Held w w15 [⟨g1_0, .i64, 64, fun _ => 0, 52⟩, ⟨g3_5, .u8, 1, fun _ => b 31 % 128, 5⟩, ⟨g4_2, .i64, 16, ry b, 50⟩, ⟨g8_1, .i64, 16, oneR, 50⟩, ⟨g9_3, .i64, 16, rsq b, 50⟩, ⟨g10_3, .i64, 16, rup b, 50⟩, ⟨g11_5, .i64, 16, rdn b, 50⟩, ⟨g12_8, .i64, 16, X, 50⟩] := hH
        clear hS hH HS12 HH12
        refine then_ ?_
        refine wp_cond_false (HS15.get 5 rfl) ?_
        refine wp_skip ?_
        refine then_ ?_
        refine wp_seq ?_
        refine wp_seq ?_
        have hLo : LOk [(0, 62, .val (.bool false))] := lok rfl rfl
        refine zJ (wE := w) (sz := 73) (n := 1) [0] [(2, .val (.pointer (some ⟨g1_0, 0, none⟩))), (6, .val (.pointer (some ⟨g4_2, 0, none⟩))), (7, .val (.pointer (some ⟨g8_1, 0, none⟩))), (11, .val (.pointer (some ⟨g12_8, 0, none⟩))), (62, .val (.bool false))] _ [⟨g1_0, none, none, .i64, 64, fun _ => 0, fun _ => 0, 52⟩, ⟨g3_5, none, none, .u8, 1, fun _ => b 31 % 128, fun _ => b 31 % 128, 5⟩, ⟨g4_2, none, none, .i64, 16, ry b, ry b, 50⟩, ⟨g8_1, none, none, .i64, 16, oneR, oneR, 50⟩, ⟨g9_3, none, none, .i64, 16, rsq b, rsq b, 50⟩, ⟨g10_3, none, none, .i64, 16, rup b, rup b, 50⟩, ⟨g11_5, none, none, .i64, 16, rdn b, rdn b, 50⟩, ⟨g12_8, none, none, .i64, 16, X, X, 50⟩] rfl (by rfl) HH15 rfl rfl hLo rfl HS15 (slS 0 rfl rfl (slS 2 rfl rfl (slS 3 rfl rfl (slS 4 rfl rfl (slL 0 (d := 0) rfl (trivial)))))) ?_ ?_
        · show ∀ i ∈ [0], _
          refine zA (zC 0 _ rfl rfl hLo rfl rfl (fun _ _ _ _ => rfl) (fun b G w hb ho => zF (.inl rfl) (zD rfl (HS15.get 1 rfl)))) ?_
          exact zE
        clear hLo
        intro G a16 w16 hS hH
        have HS16 : Sl a16 73 [(2, .pointer (some ⟨g1_0, 0, none⟩)), (6, .pointer (some ⟨g4_2, 0, none⟩)), (7, .pointer (some ⟨g8_1, 0, none⟩)), (11, .pointer (some ⟨g12_8, 0, none⟩)), (62, .bool false)] := hS
        have HH16 : Held w w16 [⟨g1_0, .i64, 64, fun _ => 0, 52⟩, ⟨g3_5, .u8, 1, fun _ => b 31 % 128, 5⟩, ⟨g4_2, .i64, 16, ry b, 50⟩, ⟨g8_1, .i64, 16, oneR, 50⟩, ⟨g9_3, .i64, 16, rsq b, 50⟩, ⟨g10_3, .i64, 16, rup b, 50⟩, ⟨g11_5, .i64, 16, rdn b, 50⟩, ⟨g12_8, .i64, 16, X, 50⟩] := hH
        clear hS hH HS15 HH15
        refine then_ ?_
        refine wp_cond_false (HS16.get 4 rfl) ?_
        refine wp_skip ?_
        refine then_ ?_
        have hok : decROk b = true := by unfold decROk; rw [hr1, hr2, hr3]; rfl
        rw [rx_n hr3 hX] at HH16
        refine wp_seq ?_
        have hLo : LOk [(0, 66, .val (.agg (FR .i64 16 (rx b)))), (1, 67, .val (.agg (FR .i64 16 (ry b)))), (2, 68, .val (.agg (FR .i64 16 (oneR)))), (3, 69, .val (.agg (FR .i64 16 (rx b)))), (4, 70, .val (.agg (FR .i64 16 (ry b)))), (5, 71, .val (.agg (FR .i64 16 (mulR (rx b) (ry b))))), (6, 72, .val (.agg (FR .i64 64 (pr4 (rx b) (ry b) (oneR) (mulR (rx b) (ry b)))))), (8, 3, .val (.bool true))] := lok rfl rfl
        refine yK (wE := w) (sz := 73) (n := 9) (B := [0, 0, 0, 0, 0, 24, 63, 127, 255]) [0, 1, 2, 3, 4, 5, 6, 7, 8] [(2, .val (.pointer (some ⟨g1_0, 0, none⟩))), (3, .val (.bool true))] _ [⟨g1_0, none, some 7, .i64, 64, fun _ => 0, pr4 (rx b) (ry b) (oneR) (mulR (rx b) (ry b)), 52⟩, ⟨g3_5, none, none, .u8, 1, fun _ => b 31 % 128, fun _ => b 31 % 128, 5⟩, ⟨g4_2, none, none, .i64, 16, ry b, ry b, 50⟩, ⟨g8_1, none, none, .i64, 16, oneR, oneR, 50⟩, ⟨g9_3, none, none, .i64, 16, rsq b, rsq b, 50⟩, ⟨g10_3, none, none, .i64, 16, rup b, rup b, 50⟩, ⟨g11_5, none, none, .i64, 16, rdn b, rdn b, 50⟩, ⟨g12_8, none, none, .i64, 16, rx b, rx b, 50⟩] (by rfl) rfl tabdecR_15 bitsdecR_15 (by kernel_rfl) (by kernel_rfl) HH16 rfl rfl hLo rfl HS16 (slS 0 rfl rfl (slL 7 (d := 8) rfl (trivial))) ?_ ?_
        · show ∀ i ∈ [0, 1, 2, 3, 4, 5, 6, 7, 8], _
          refine zA (zG 0 7 _ rfl rfl rfl rfl (fun _ _ _ _ => rfl) hLo rfl rfl rfl (by rfl) Tryd.underlying50 zL rfl (fun b G hb ho => zD rfl (HS16.get 3 rfl))) ?_
          refine zA (zG 1 2 _ rfl rfl rfl rfl (fun _ _ _ _ => rfl) hLo rfl rfl rfl (by rfl) Tryd.underlying50 zL rfl (fun b G hb ho => zD rfl (HS16.get 1 rfl))) ?_
          refine zA (zG 2 3 _ rfl rfl rfl rfl (fun _ _ _ _ => rfl) hLo rfl rfl rfl (by rfl) Tryd.underlying50 zL rfl (fun b G hb ho => zD rfl (HS16.get 2 rfl))) ?_
          refine zA (zG 3 7 _ rfl rfl rfl rfl (fun _ _ _ _ => rfl) hLo rfl rfl rfl (by rfl) Tryd.underlying50 zL rfl (fun b G hb ho => zD rfl (HS16.get 3 rfl))) ?_
          refine zA (zG 4 2 _ rfl rfl rfl rfl (fun _ _ _ _ => rfl) hLo rfl rfl rfl (by rfl) Tryd.underlying50 zL rfl (fun b G hb ho => zD rfl (HS16.get 1 rfl))) ?_
          refine zA (zH 5 _ #[.agg (FR .i64 16 (rx b)), .agg (FR .i64 16 (ry b))] rfl rfl rfl (fun _ _ _ _ => rfl) hLo rfl rfl Tryd.func45 rfl rfl (fun b G hb ho => zU (zB hLo 3 rfl HS16.1 rfl (hb 3 (by rfl))) (zB hLo 4 rfl HS16.1 rfl (hb 4 (by rfl)))) (fun w hw => mulR_c _ _ w (rx_Rn hb) (ry_Rn hb))) ?_
          refine zA (zC 6 _ rfl rfl hLo rfl rfl (fun _ _ _ _ => rfl) (fun b G w hb ho => zZ rfl (parts4 (zB hLo 0 rfl HS16.1 rfl (hb 0 (by rfl))) (zB hLo 1 rfl HS16.1 rfl (hb 1 (by rfl))) (zB hLo 2 rfl HS16.1 rfl (hb 2 (by rfl))) (zB hLo 5 rfl HS16.1 rfl (hb 5 (by rfl)))) (build_pr _ _ _ _ _))) ?_
          refine zA (zI 0 _ rfl rfl rfl rfl rfl (fun _ _ _ _ => rfl) rfl rfl rfl (by rfl) infoPr (fun b G hb ho => zD rfl (HS16.get 0 rfl)) (fun b G hb ho => zB hLo 6 rfl HS16.1 rfl (hb 6 (by rfl)))) ?_
          refine zA (zC 7 _ rfl rfl hLo rfl rfl (fun _ _ _ _ => rfl) (fun b G w hb ho => zF (.inr rfl) (rfl))) ?_
          exact zE
        clear hLo
        intro G a17 w17 hS hH
        have HS17 : Sl a17 73 [(2, .pointer (some ⟨g1_0, 0, none⟩)), (3, .bool true)] := hS
        have HH17 : Held w w17 [⟨g1_0, .i64, 64, pr4 (rx b) (ry b) (oneR) (mulR (rx b) (ry b)), 52⟩, ⟨g3_5, .u8, 1, fun _ => b 31 % 128, 5⟩, ⟨g4_2, .i64, 16, ry b, 50⟩, ⟨g8_1, .i64, 16, oneR, 50⟩, ⟨g9_3, .i64, 16, rsq b, 50⟩, ⟨g10_3, .i64, 16, rup b, 50⟩, ⟨g11_5, .i64, 16, rdn b, 50⟩, ⟨g12_8, .i64, 16, rx b, 50⟩] := hH
        clear hS hH HS16 HH16
        refine then_ ?_
        refine wp_ret ?_
        repeat refine yC ?_
        exact b_row2 rfl HS17.2.1 (HS17.get 0 rfl) (HS17.get 1 rfl) (HH17.row 0 rfl) Tryd.underlying52 rfl infoPr ⟨by rw [decRP_y hok, hok], HH17.1⟩
      · skip
        cases r4
        · skip
          refine wp_seq ?_
          refine wp_seq ?_
          have hLo : LOk [(0, 51, .val (.bool true)), (1, 52, .val (.bool false)), (2, 53, .val (.bool false)), (3, 54, .val (.bool true)), (4, 55, .val (.bool true)), (5, 56, .val (.agg (FR .i64 16 (X)))), (6, 57, .val (.agg (FR .i64 16 (fun _ => 0)))), (7, 58, .val (.bool false)), (8, 59, .val (.bool false)), (9, 60, .val (.bool false))] := lok rfl rfl
          refine zJ (wE := w) (sz := 73) (n := 10) [0, 1, 3, 7, 15, 31, 63, 127, 255, 511] [(2, .val (.pointer (some ⟨g1_0, 0, none⟩))), (4, .val (.bool true)), (6, .val (.pointer (some ⟨g4_2, 0, none⟩))), (7, .val (.pointer (some ⟨g8_1, 0, none⟩))), (11, .val (.pointer (some ⟨g12_8, 0, none⟩))), (60, .val (.bool false))] _ [⟨g1_0, none, none, .i64, 64, fun _ => 0, fun _ => 0, 52⟩, ⟨g3_5, none, none, .u8, 1, fun _ => b 31 % 128, fun _ => b 31 % 128, 5⟩, ⟨g4_2, none, none, .i64, 16, ry b, ry b, 50⟩, ⟨g8_1, none, none, .i64, 16, oneR, oneR, 50⟩, ⟨g9_3, none, none, .i64, 16, rsq b, rsq b, 50⟩, ⟨g10_3, none, none, .i64, 16, rup b, rup b, 50⟩, ⟨g11_5, none, none, .i64, 16, rdn b, rdn b, 50⟩, ⟨g12_8, none, none, .i64, 16, X, X, 50⟩] rfl (by rfl) HH12 rfl rfl hLo rfl HS12 (slS 0 rfl rfl (slS 1 rfl rfl (slS 2 rfl rfl (slS 3 rfl rfl (slS 4 rfl rfl (slL 9 (d := 9) rfl (trivial))))))) ?_ ?_
          · show ∀ i ∈ [0, 1, 2, 3, 4, 5, 6, 7, 8, 9], _
            refine zA (zC 0 _ rfl rfl hLo rfl rfl (fun _ _ _ _ => rfl) (fun b G w hb ho => zF (.inl rfl) (zD rfl (HS12.get 5 rfl)))) ?_
            refine zA (zC 1 _ rfl rfl hLo rfl rfl (fun _ _ _ _ => rfl) (fun b G w hb ho => exec_un rfl (zB hLo 0 rfl HS12.1 rfl (hb 0 (by rfl))) (by rfl))) ?_
            refine zA (zC 2 _ rfl rfl hLo rfl rfl (fun _ _ _ _ => rfl) (fun b G w hb ho => zF (.inl rfl) (zB hLo 1 rfl HS12.1 rfl (hb 1 (by rfl))))) ?_
            refine zA (zC 3 _ rfl rfl hLo rfl rfl (fun b G hb ho => zN rfl rfl rfl HS12.1 rfl (zB hLo 2 rfl HS12.1 rfl (hb 2 (by rfl))) rfl) (fun b G w hb ho => zF (.inl rfl) (zD rfl (HS12.get 1 rfl)))) ?_
            refine zA (zC 4 _ rfl rfl hLo rfl rfl (fun b G hb ho => zN rfl rfl rfl HS12.1 rfl (zB hLo 2 rfl HS12.1 rfl (hb 2 (by rfl))) rfl) (fun b G w hb ho => zF (.inl rfl) (zB hLo 3 rfl HS12.1 rfl (hb 3 (by rfl))))) ?_
            refine zA (zG 5 7 _ rfl rfl rfl rfl (fun b G hb ho => zN rfl rfl rfl HS12.1 rfl (zB hLo 4 rfl HS12.1 rfl (hb 4 (by rfl))) rfl) hLo rfl rfl rfl (by rfl) Tryd.underlying50 zL rfl (fun b G hb ho => zD rfl (HS12.get 4 rfl))) ?_
            refine zA (zC 6 _ rfl rfl hLo rfl rfl (fun b G hb ho => zN rfl rfl rfl HS12.1 rfl (zB hLo 4 rfl HS12.1 rfl (hb 4 (by rfl))) rfl) (fun b G w hb ho => zZ rfl (parts0 ) (by kernel_rfl))) ?_
            refine zA (zH 7 _ #[.agg (FR .i64 16 (X)), .agg (FR .i64 16 (fun _ => 0))] rfl rfl rfl (fun b G hb ho => zN rfl rfl rfl HS12.1 rfl (zB hLo 4 rfl HS12.1 rfl (hb 4 (by rfl))) rfl) hLo rfl rfl Tryd.func64 rfl rfl (fun b G hb ho => zU (zB hLo 5 rfl HS12.1 rfl (hb 5 (by rfl))) (zB hLo 6 rfl HS12.1 rfl (hb 6 (by rfl)))) (fun w hw => isR_r hXl Re.zero.1 hr5 w)) ?_
            refine zA (zC 8 _ rfl rfl hLo rfl rfl (fun b G hb ho => zN rfl rfl rfl HS12.1 rfl (zB hLo 2 rfl HS12.1 rfl (hb 2 (by rfl))) rfl) (fun b G w hb ho => exec_pick rfl (zB hLo 4 rfl HS12.1 rfl (hb 4 (by rfl))) (zB hLo 7 rfl HS12.1 rfl (hb 7 (by rfl))))) ?_
            refine zA (zC 9 _ rfl rfl hLo rfl rfl (fun _ _ _ _ => rfl) (fun b G w hb ho => exec_pick rfl (zB hLo 2 rfl HS12.1 rfl (hb 2 (by rfl))) (zB hLo 8 rfl HS12.1 rfl (hb 8 (by rfl))))) ?_
            exact zE
          clear hLo
          intro G a18 w18 hS hH
          have HS18 : Sl a18 73 [(2, .pointer (some ⟨g1_0, 0, none⟩)), (4, .bool true), (6, .pointer (some ⟨g4_2, 0, none⟩)), (7, .pointer (some ⟨g8_1, 0, none⟩)), (11, .pointer (some ⟨g12_8, 0, none⟩)), (60, .bool false)] := hS
          have HH18 : Held w w18 [⟨g1_0, .i64, 64, fun _ => 0, 52⟩, ⟨g3_5, .u8, 1, fun _ => b 31 % 128, 5⟩, ⟨g4_2, .i64, 16, ry b, 50⟩, ⟨g8_1, .i64, 16, oneR, 50⟩, ⟨g9_3, .i64, 16, rsq b, 50⟩, ⟨g10_3, .i64, 16, rup b, 50⟩, ⟨g11_5, .i64, 16, rdn b, 50⟩, ⟨g12_8, .i64, 16, X, 50⟩] := hH
          clear hS hH HS12 HH12
          refine then_ ?_
          refine wp_cond_false (HS18.get 5 rfl) ?_
          refine wp_skip ?_
          refine then_ ?_
          refine wp_seq ?_
          refine wp_seq ?_
          have hLo : LOk [(0, 62, .val (.bool true))] := lok rfl rfl
          refine zJ (wE := w) (sz := 73) (n := 1) [0] [(2, .val (.pointer (some ⟨g1_0, 0, none⟩))), (6, .val (.pointer (some ⟨g4_2, 0, none⟩))), (7, .val (.pointer (some ⟨g8_1, 0, none⟩))), (11, .val (.pointer (some ⟨g12_8, 0, none⟩))), (62, .val (.bool true))] _ [⟨g1_0, none, none, .i64, 64, fun _ => 0, fun _ => 0, 52⟩, ⟨g3_5, none, none, .u8, 1, fun _ => b 31 % 128, fun _ => b 31 % 128, 5⟩, ⟨g4_2, none, none, .i64, 16, ry b, ry b, 50⟩, ⟨g8_1, none, none, .i64, 16, oneR, oneR, 50⟩, ⟨g9_3, none, none, .i64, 16, rsq b, rsq b, 50⟩, ⟨g10_3, none, none, .i64, 16, rup b, rup b, 50⟩, ⟨g11_5, none, none, .i64, 16, rdn b, rdn b, 50⟩, ⟨g12_8, none, none, .i64, 16, X, X, 50⟩] rfl (by rfl) HH18 rfl rfl hLo rfl HS18 (slS 0 rfl rfl (slS 2 rfl rfl (slS 3 rfl rfl (slS 4 rfl rfl (slL 0 (d := 0) rfl (trivial)))))) ?_ ?_
          · show ∀ i ∈ [0], _
            refine zA (zC 0 _ rfl rfl hLo rfl rfl (fun _ _ _ _ => rfl) (fun b G w hb ho => zF (.inl rfl) (zD rfl (HS18.get 1 rfl)))) ?_
            exact zE
          clear hLo
          intro G a19 w19 hS hH
          have HS19 : Sl a19 73 [(2, .pointer (some ⟨g1_0, 0, none⟩)), (6, .pointer (some ⟨g4_2, 0, none⟩)), (7, .pointer (some ⟨g8_1, 0, none⟩)), (11, .pointer (some ⟨g12_8, 0, none⟩)), (62, .bool true)] := hS
          have HH19 : Held w w19 [⟨g1_0, .i64, 64, fun _ => 0, 52⟩, ⟨g3_5, .u8, 1, fun _ => b 31 % 128, 5⟩, ⟨g4_2, .i64, 16, ry b, 50⟩, ⟨g8_1, .i64, 16, oneR, 50⟩, ⟨g9_3, .i64, 16, rsq b, 50⟩, ⟨g10_3, .i64, 16, rup b, 50⟩, ⟨g11_5, .i64, 16, rdn b, 50⟩, ⟨g12_8, .i64, 16, X, 50⟩] := hH
          clear hS hH HS18 HH18
          refine then_ ?_
          refine wp_cond_true (HS19.get 4 rfl) ?_
          have hLo : LOk [(0, 63, .val (.agg (FR .i64 16 (fun _ => 0)))), (1, 64, .val (.agg (FR .i64 16 (X)))), (2, 65, .val (.agg (FR .i64 16 (subR (fun _ => 0) (X)))))] := lok rfl rfl
          refine zJ (wE := w) (sz := 73) (n := 4) [0, 1, 3, 7] [(2, .val (.pointer (some ⟨g1_0, 0, none⟩))), (6, .val (.pointer (some ⟨g4_2, 0, none⟩))), (7, .val (.pointer (some ⟨g8_1, 0, none⟩))), (11, .val (.pointer (some ⟨g12_8, 0, none⟩)))] _ [⟨g1_0, none, none, .i64, 64, fun _ => 0, fun _ => 0, 52⟩, ⟨g3_5, none, none, .u8, 1, fun _ => b 31 % 128, fun _ => b 31 % 128, 5⟩, ⟨g4_2, none, none, .i64, 16, ry b, ry b, 50⟩, ⟨g8_1, none, none, .i64, 16, oneR, oneR, 50⟩, ⟨g9_3, none, none, .i64, 16, rsq b, rsq b, 50⟩, ⟨g10_3, none, none, .i64, 16, rup b, rup b, 50⟩, ⟨g11_5, none, none, .i64, 16, rdn b, rdn b, 50⟩, ⟨g12_8, none, some 3, .i64, 16, X, subR (fun _ => 0) (X), 50⟩] rfl (by rfl) HH19 rfl rfl hLo rfl HS19 (slS 0 rfl rfl (slS 1 rfl rfl (slS 2 rfl rfl (slS 3 rfl rfl (trivial))))) ?_ ?_
          · show ∀ i ∈ [0, 1, 2, 3], _
            refine zA (zC 0 _ rfl rfl hLo rfl rfl (fun _ _ _ _ => rfl) (fun b G w hb ho => zZ rfl (parts0 ) (by kernel_rfl))) ?_
            refine zA (zG 1 7 _ rfl rfl rfl rfl (fun _ _ _ _ => rfl) hLo rfl rfl rfl (by rfl) Tryd.underlying50 zL rfl (fun b G hb ho => zD rfl (HS19.get 3 rfl))) ?_
            refine zA (zH 2 _ #[.agg (FR .i64 16 (fun _ => 0)), .agg (FR .i64 16 (X))] rfl rfl rfl (fun _ _ _ _ => rfl) hLo rfl rfl Tryd.func60 rfl rfl (fun b G hb ho => zU (zB hLo 0 rfl HS19.1 rfl (hb 0 (by rfl))) (zB hLo 1 rfl HS19.1 rfl (hb 1 (by rfl)))) (fun w hw => subR_c _ _ w Re.zero.1 hXl)) ?_
            refine zA (zI 7 _ rfl rfl rfl rfl rfl (fun _ _ _ _ => rfl) rfl rfl rfl (by rfl) zL (fun b G hb ho => zD rfl (HS19.get 3 rfl)) (fun b G hb ho => zB hLo 2 rfl HS19.1 rfl (hb 2 (by rfl)))) ?_
            exact zE
          clear hLo
          intro G a20 w20 hS hH
          have HS20 : Sl a20 73 [(2, .pointer (some ⟨g1_0, 0, none⟩)), (6, .pointer (some ⟨g4_2, 0, none⟩)), (7, .pointer (some ⟨g8_1, 0, none⟩)), (11, .pointer (some ⟨g12_8, 0, none⟩))] := hS
          have HH20 : Held w w20 [⟨g1_0, .i64, 64, fun _ => 0, 52⟩, ⟨g3_5, .u8, 1, fun _ => b 31 % 128, 5⟩, ⟨g4_2, .i64, 16, ry b, 50⟩, ⟨g8_1, .i64, 16, oneR, 50⟩, ⟨g9_3, .i64, 16, rsq b, 50⟩, ⟨g10_3, .i64, 16, rup b, 50⟩, ⟨g11_5, .i64, 16, rdn b, 50⟩, ⟨g12_8, .i64, 16, subR (fun _ => 0) (X), 50⟩] := hH
          clear hS hH HS19 HH19
          refine then_ ?_
          have hok : decROk b = true := by unfold decROk; rw [hr1, hr2, hr3, hr4]; rfl
          rw [rx_y hr3 hX] at HH20
          refine wp_seq ?_
          have hLo : LOk [(0, 66, .val (.agg (FR .i64 16 (rx b)))), (1, 67, .val (.agg (FR .i64 16 (ry b)))), (2, 68, .val (.agg (FR .i64 16 (oneR)))), (3, 69, .val (.agg (FR .i64 16 (rx b)))), (4, 70, .val (.agg (FR .i64 16 (ry b)))), (5, 71, .val (.agg (FR .i64 16 (mulR (rx b) (ry b))))), (6, 72, .val (.agg (FR .i64 64 (pr4 (rx b) (ry b) (oneR) (mulR (rx b) (ry b)))))), (8, 3, .val (.bool true))] := lok rfl rfl
          refine yK (wE := w) (sz := 73) (n := 9) (B := [0, 0, 0, 0, 0, 24, 63, 127, 255]) [0, 1, 2, 3, 4, 5, 6, 7, 8] [(2, .val (.pointer (some ⟨g1_0, 0, none⟩))), (3, .val (.bool true))] _ [⟨g1_0, none, some 7, .i64, 64, fun _ => 0, pr4 (rx b) (ry b) (oneR) (mulR (rx b) (ry b)), 52⟩, ⟨g3_5, none, none, .u8, 1, fun _ => b 31 % 128, fun _ => b 31 % 128, 5⟩, ⟨g4_2, none, none, .i64, 16, ry b, ry b, 50⟩, ⟨g8_1, none, none, .i64, 16, oneR, oneR, 50⟩, ⟨g9_3, none, none, .i64, 16, rsq b, rsq b, 50⟩, ⟨g10_3, none, none, .i64, 16, rup b, rup b, 50⟩, ⟨g11_5, none, none, .i64, 16, rdn b, rdn b, 50⟩, ⟨g12_8, none, none, .i64, 16, rx b, rx b, 50⟩] (by rfl) rfl tabdecR_15 bitsdecR_15 (by kernel_rfl) (by kernel_rfl) HH20 rfl rfl hLo rfl HS20 (slS 0 rfl rfl (slL 7 (d := 8) rfl (trivial))) ?_ ?_
          · show ∀ i ∈ [0, 1, 2, 3, 4, 5, 6, 7, 8], _
            refine zA (zG 0 7 _ rfl rfl rfl rfl (fun _ _ _ _ => rfl) hLo rfl rfl rfl (by rfl) Tryd.underlying50 zL rfl (fun b G hb ho => zD rfl (HS20.get 3 rfl))) ?_
            refine zA (zG 1 2 _ rfl rfl rfl rfl (fun _ _ _ _ => rfl) hLo rfl rfl rfl (by rfl) Tryd.underlying50 zL rfl (fun b G hb ho => zD rfl (HS20.get 1 rfl))) ?_
            refine zA (zG 2 3 _ rfl rfl rfl rfl (fun _ _ _ _ => rfl) hLo rfl rfl rfl (by rfl) Tryd.underlying50 zL rfl (fun b G hb ho => zD rfl (HS20.get 2 rfl))) ?_
            refine zA (zG 3 7 _ rfl rfl rfl rfl (fun _ _ _ _ => rfl) hLo rfl rfl rfl (by rfl) Tryd.underlying50 zL rfl (fun b G hb ho => zD rfl (HS20.get 3 rfl))) ?_
            refine zA (zG 4 2 _ rfl rfl rfl rfl (fun _ _ _ _ => rfl) hLo rfl rfl rfl (by rfl) Tryd.underlying50 zL rfl (fun b G hb ho => zD rfl (HS20.get 1 rfl))) ?_
            refine zA (zH 5 _ #[.agg (FR .i64 16 (rx b)), .agg (FR .i64 16 (ry b))] rfl rfl rfl (fun _ _ _ _ => rfl) hLo rfl rfl Tryd.func45 rfl rfl (fun b G hb ho => zU (zB hLo 3 rfl HS20.1 rfl (hb 3 (by rfl))) (zB hLo 4 rfl HS20.1 rfl (hb 4 (by rfl)))) (fun w hw => mulR_c _ _ w (rx_Rn hb) (ry_Rn hb))) ?_
            refine zA (zC 6 _ rfl rfl hLo rfl rfl (fun _ _ _ _ => rfl) (fun b G w hb ho => zZ rfl (parts4 (zB hLo 0 rfl HS20.1 rfl (hb 0 (by rfl))) (zB hLo 1 rfl HS20.1 rfl (hb 1 (by rfl))) (zB hLo 2 rfl HS20.1 rfl (hb 2 (by rfl))) (zB hLo 5 rfl HS20.1 rfl (hb 5 (by rfl)))) (build_pr _ _ _ _ _))) ?_
            refine zA (zI 0 _ rfl rfl rfl rfl rfl (fun _ _ _ _ => rfl) rfl rfl rfl (by rfl) infoPr (fun b G hb ho => zD rfl (HS20.get 0 rfl)) (fun b G hb ho => zB hLo 6 rfl HS20.1 rfl (hb 6 (by rfl)))) ?_
            refine zA (zC 7 _ rfl rfl hLo rfl rfl (fun _ _ _ _ => rfl) (fun b G w hb ho => zF (.inr rfl) (rfl))) ?_
            exact zE
          clear hLo
          intro G a21 w21 hS hH
          have HS21 : Sl a21 73 [(2, .pointer (some ⟨g1_0, 0, none⟩)), (3, .bool true)] := hS
          have HH21 : Held w w21 [⟨g1_0, .i64, 64, pr4 (rx b) (ry b) (oneR) (mulR (rx b) (ry b)), 52⟩, ⟨g3_5, .u8, 1, fun _ => b 31 % 128, 5⟩, ⟨g4_2, .i64, 16, ry b, 50⟩, ⟨g8_1, .i64, 16, oneR, 50⟩, ⟨g9_3, .i64, 16, rsq b, 50⟩, ⟨g10_3, .i64, 16, rup b, 50⟩, ⟨g11_5, .i64, 16, rdn b, 50⟩, ⟨g12_8, .i64, 16, rx b, 50⟩] := hH
          clear hS hH HS20 HH20
          refine then_ ?_
          refine wp_ret ?_
          repeat refine yC ?_
          exact b_row2 rfl HS21.2.1 (HS21.get 0 rfl) (HS21.get 1 rfl) (HH21.row 0 rfl) Tryd.underlying52 rfl infoPr ⟨by rw [decRP_y hok, hok], HH21.1⟩
        · skip
          refine wp_seq ?_
          refine wp_seq ?_
          have hLo : LOk [(0, 51, .val (.bool true)), (1, 52, .val (.bool false)), (2, 53, .val (.bool false)), (3, 54, .val (.bool true)), (4, 55, .val (.bool true)), (5, 56, .val (.agg (FR .i64 16 (X)))), (6, 57, .val (.agg (FR .i64 16 (fun _ => 0)))), (7, 58, .val (.bool true)), (8, 59, .val (.bool true)), (9, 60, .val (.bool true))] := lok rfl rfl
          refine zJ (wE := w) (sz := 73) (n := 10) [0, 1, 3, 7, 15, 31, 63, 127, 255, 511] [(2, .val (.pointer (some ⟨g1_0, 0, none⟩))), (60, .val (.bool true))] _ [⟨g1_0, none, none, .i64, 64, fun _ => 0, fun _ => 0, 52⟩, ⟨g3_5, none, none, .u8, 1, fun _ => b 31 % 128, fun _ => b 31 % 128, 5⟩, ⟨g4_2, none, none, .i64, 16, ry b, ry b, 50⟩, ⟨g8_1, none, none, .i64, 16, oneR, oneR, 50⟩, ⟨g9_3, none, none, .i64, 16, rsq b, rsq b, 50⟩, ⟨g10_3, none, none, .i64, 16, rup b, rup b, 50⟩, ⟨g11_5, none, none, .i64, 16, rdn b, rdn b, 50⟩, ⟨g12_8, none, none, .i64, 16, X, X, 50⟩] rfl (by rfl) HH12 rfl rfl hLo rfl HS12 (slS 0 rfl rfl (slL 9 (d := 9) rfl (trivial))) ?_ ?_
          · show ∀ i ∈ [0, 1, 2, 3, 4, 5, 6, 7, 8, 9], _
            refine zA (zC 0 _ rfl rfl hLo rfl rfl (fun _ _ _ _ => rfl) (fun b G w hb ho => zF (.inl rfl) (zD rfl (HS12.get 5 rfl)))) ?_
            refine zA (zC 1 _ rfl rfl hLo rfl rfl (fun _ _ _ _ => rfl) (fun b G w hb ho => exec_un rfl (zB hLo 0 rfl HS12.1 rfl (hb 0 (by rfl))) (by rfl))) ?_
            refine zA (zC 2 _ rfl rfl hLo rfl rfl (fun _ _ _ _ => rfl) (fun b G w hb ho => zF (.inl rfl) (zB hLo 1 rfl HS12.1 rfl (hb 1 (by rfl))))) ?_
            refine zA (zC 3 _ rfl rfl hLo rfl rfl (fun b G hb ho => zN rfl rfl rfl HS12.1 rfl (zB hLo 2 rfl HS12.1 rfl (hb 2 (by rfl))) rfl) (fun b G w hb ho => zF (.inl rfl) (zD rfl (HS12.get 1 rfl)))) ?_
            refine zA (zC 4 _ rfl rfl hLo rfl rfl (fun b G hb ho => zN rfl rfl rfl HS12.1 rfl (zB hLo 2 rfl HS12.1 rfl (hb 2 (by rfl))) rfl) (fun b G w hb ho => zF (.inl rfl) (zB hLo 3 rfl HS12.1 rfl (hb 3 (by rfl))))) ?_
            refine zA (zG 5 7 _ rfl rfl rfl rfl (fun b G hb ho => zN rfl rfl rfl HS12.1 rfl (zB hLo 4 rfl HS12.1 rfl (hb 4 (by rfl))) rfl) hLo rfl rfl rfl (by rfl) Tryd.underlying50 zL rfl (fun b G hb ho => zD rfl (HS12.get 4 rfl))) ?_
            refine zA (zC 6 _ rfl rfl hLo rfl rfl (fun b G hb ho => zN rfl rfl rfl HS12.1 rfl (zB hLo 4 rfl HS12.1 rfl (hb 4 (by rfl))) rfl) (fun b G w hb ho => zZ rfl (parts0 ) (by kernel_rfl))) ?_
            refine zA (zH 7 _ #[.agg (FR .i64 16 (X)), .agg (FR .i64 16 (fun _ => 0))] rfl rfl rfl (fun b G hb ho => zN rfl rfl rfl HS12.1 rfl (zB hLo 4 rfl HS12.1 rfl (hb 4 (by rfl))) rfl) hLo rfl rfl Tryd.func64 rfl rfl (fun b G hb ho => zU (zB hLo 5 rfl HS12.1 rfl (hb 5 (by rfl))) (zB hLo 6 rfl HS12.1 rfl (hb 6 (by rfl)))) (fun w hw => isR_r hXl Re.zero.1 hr5 w)) ?_
            refine zA (zC 8 _ rfl rfl hLo rfl rfl (fun b G hb ho => zN rfl rfl rfl HS12.1 rfl (zB hLo 2 rfl HS12.1 rfl (hb 2 (by rfl))) rfl) (fun b G w hb ho => exec_pick rfl (zB hLo 4 rfl HS12.1 rfl (hb 4 (by rfl))) (zB hLo 7 rfl HS12.1 rfl (hb 7 (by rfl))))) ?_
            refine zA (zC 9 _ rfl rfl hLo rfl rfl (fun _ _ _ _ => rfl) (fun b G w hb ho => exec_pick rfl (zB hLo 2 rfl HS12.1 rfl (hb 2 (by rfl))) (zB hLo 8 rfl HS12.1 rfl (hb 8 (by rfl))))) ?_
            exact zE
          clear hLo
          intro G a22 w22 hS hH
          have HS22 : Sl a22 73 [(2, .pointer (some ⟨g1_0, 0, none⟩)), (60, .bool true)] := hS
          have HH22 : Held w w22 [⟨g1_0, .i64, 64, fun _ => 0, 52⟩, ⟨g3_5, .u8, 1, fun _ => b 31 % 128, 5⟩, ⟨g4_2, .i64, 16, ry b, 50⟩, ⟨g8_1, .i64, 16, oneR, 50⟩, ⟨g9_3, .i64, 16, rsq b, 50⟩, ⟨g10_3, .i64, 16, rup b, 50⟩, ⟨g11_5, .i64, 16, rdn b, 50⟩, ⟨g12_8, .i64, 16, X, 50⟩] := hH
          clear hS hH HS12 HH12
          refine then_ ?_
          refine wp_cond_true (HS22.get 1 rfl) ?_
          refine wp_seq ?_
          have hLo : LOk [(0, 61, .val (.agg (FR .i64 64 (fun _ => 0)))), (2, 3, .val (.bool false))] := lok rfl rfl
          refine zJ (wE := w) (sz := 73) (n := 3) [0, 1, 3] [(2, .val (.pointer (some ⟨g1_0, 0, none⟩))), (3, .val (.bool false))] _ [⟨g1_0, none, some 1, .i64, 64, fun _ => 0, fun _ => 0, 52⟩, ⟨g3_5, none, none, .u8, 1, fun _ => b 31 % 128, fun _ => b 31 % 128, 5⟩, ⟨g4_2, none, none, .i64, 16, ry b, ry b, 50⟩, ⟨g8_1, none, none, .i64, 16, oneR, oneR, 50⟩, ⟨g9_3, none, none, .i64, 16, rsq b, rsq b, 50⟩, ⟨g10_3, none, none, .i64, 16, rup b, rup b, 50⟩, ⟨g11_5, none, none, .i64, 16, rdn b, rdn b, 50⟩, ⟨g12_8, none, none, .i64, 16, X, X, 50⟩] rfl (by rfl) HH22 rfl rfl hLo rfl HS22 (slS 0 rfl rfl (slL 1 (d := 2) rfl (trivial))) ?_ ?_
          · show ∀ i ∈ [0, 1, 2], _
            refine zA (zC 0 _ rfl rfl hLo rfl rfl (fun _ _ _ _ => rfl) (fun b G w hb ho => zZ rfl (parts0 ) (by kernel_rfl))) ?_
            refine zA (zI 0 _ rfl rfl rfl rfl rfl (fun _ _ _ _ => rfl) rfl rfl rfl (by rfl) infoPr (fun b G hb ho => zD rfl (HS22.get 0 rfl)) (fun b G hb ho => zB hLo 0 rfl HS22.1 rfl (hb 0 (by rfl)))) ?_
            refine zA (zC 1 _ rfl rfl hLo rfl rfl (fun _ _ _ _ => rfl) (fun b G w hb ho => zF (.inr rfl) (rfl))) ?_
            exact zE
          clear hLo
          intro G a23 w23 hS hH
          have HS23 : Sl a23 73 [(2, .pointer (some ⟨g1_0, 0, none⟩)), (3, .bool false)] := hS
          have HH23 : Held w w23 [⟨g1_0, .i64, 64, fun _ => 0, 52⟩, ⟨g3_5, .u8, 1, fun _ => b 31 % 128, 5⟩, ⟨g4_2, .i64, 16, ry b, 50⟩, ⟨g8_1, .i64, 16, oneR, 50⟩, ⟨g9_3, .i64, 16, rsq b, 50⟩, ⟨g10_3, .i64, 16, rup b, 50⟩, ⟨g11_5, .i64, 16, rdn b, 50⟩, ⟨g12_8, .i64, 16, X, 50⟩] := hH
          clear hS hH HS22 HH22
          refine then_ ?_
          refine wp_ret ?_
          repeat refine yC ?_
          exact b_row2 rfl HS23.2.1 (HS23.get 0 rfl) (HS23.get 1 rfl) (HH23.row 0 rfl) Tryd.underlying52 rfl infoPr ⟨by rw [decRP_n (by unfold decROk; rw [hr1, hr2, hr3, hr4]; rfl), show decROk b = false by unfold decROk; rw [hr1, hr2, hr3, hr4]; rfl], HH23.1⟩
theorem conv_in (Y : Nat → Int) (hY : By Y) (w : World) : ∃ w5 c5, (convert 9 25 (.string (sOf Y))).run Tryd.prog w = .ok (.slice (some ⟨w.heap.size, 0, none⟩) 32 c5) w5 ∧ Below w.heap.size w w5 ∧
    (∀ j, j < 32 → w5.cell? ⟨w.heap.size, j, none⟩ = some (.int .u8 (Y j))) ∧ (∀ j, j < 32 → w5.frozen? ⟨w.heap.size, j, none⟩ = false) := by
  have hz := sOf_size Y
  refine ⟨Lib.bytesWorld w 5 (sOf Y), grownCap w 32 0 5, by rw [Lib.run_convert_string_bytes w 9 25 5 (sOf Y) Tryd.underlying9 Tryd.underlying25 Tryd.underlying5, hz], ⟨rfl, rfl, rfl, by rw [Lib.bytesWorld_size]; omega, fun k hk => Lib.bytesWorld_at_old w _ _ k hk⟩, fun j hj => ?_, fun j hj => ?_⟩
  · rw [Lib.bytesWorld_cell w _ _ j (by omega)]
    have h1 := hY j hj
    have e : (((sOf Y).data.toList.getD j 0).toNat : Int) = Y j := by
      show (((((List.range 32).map Y).map fun n => UInt8.ofNat n.toNat).getD j 0).toNat : Int) = Y j
      rw [List.getD_eq_getElem?_getD, List.getElem?_map, List.getElem?_map, List.getElem?_range hj]
      simp
      omega
    rw [e]
  · have hs : 32 ≤ (Lib.bytesCells w 5 (sOf Y)).size := by
      unfold Lib.bytesCells
      rw [Array.size_append, Array.size_map]
      show 32 ≤ (sOf Y).size + _
      omega
    simp [World.frozen?, Lib.bytesWorld_at_new]
    omega
def yR' (F : Nat → Int) : Nat → Int := mulR (co F 16) (invR (co F 32))
def xR' (F : Nat → Int) : Nat → Int := mulR (co F 0) (invR (co F 32))
theorem yR'_Rn {F : Nat → Int} (hF : PR F) : Rn (yR' F) := rmul hF.2.1 (rinv hF.2.2.1)
theorem xR'_Rn {F : Nat → Int} (hF : PR F) : Rn (xR' F) := rmul hF.1 (rinv hF.2.2.1)
def yRB (F : Nat → Int) : Nat → Int := dig 256 (V16 (yR' F) % PP)
def oddR (F : Nat → Int) : Bool := decide (V16 (xR' F) % PP % 2 = 1)
def bytesRP (F : Nat → Int) : Nat → Int := if oddR F then upd (yRB F) 31 ((yRB F 31 + 128) % 256) else yRB F
theorem bytesRP_n {F Y : Nat → Int} (h : oddR F = false) (hY : yRB F = Y) : bytesRP F = Y := by unfold bytesRP; rw [h, if_neg (by decide)]; exact hY
theorem bytesRP_y {F Y : Nat → Int} (h : oddR F = true) (hY : yRB F = Y) : bytesRP F = upd Y 31 ((Y 31 + 128) % 256) := by unfold bytesRP; rw [h, if_pos rfl, hY]
theorem part_cells {w : World} {g : Nat} {k : IntKind} {n : Nat} {f : Nat → Int} {t : TypeId} (h : Row w g k n f t) (o m : Nat) (hm : o + m ≤ n) : ∀ j, j < m → w.cell? ((⟨g, o, none⟩ : Addr).add j) = some (.int k (co f o j)) := fun j hj => by
  rw [add_at]; exact h.cell (o + j) (by omega)
theorem str_of {w : World} {g c : Nat} {Y : Nat → Int} (h : ∀ j, j < 32 → w.cell? ⟨g, j, none⟩ = some (.int .u8 (Y j))) : (convert 25 9 (.slice (some ⟨g, 0, none⟩) 32 c)).run Tryd.prog w = .ok (.string (sOf Y)) w :=
  run_convert_bytes_arg w 25 5 Tryd.underlying25 Tryd.underlying5 g 0 32 c ((List.range 32).map Y) (by simp) (fun i hi => by
    rw [Nat.zero_add, h i hi]
    simp [List.getD_eq_getElem?_getD, hi]) 9 Tryd.underlying9
theorem bytes_pr (F : Nat → Int) (w : World) (hF : PR F) : Calls Tryd.prog 21 #[.agg (FR .i64 64 F)] w fun e w' => e = .returned (.string (sOf (bytesRP F))) ∧ Below w.heap.size w w' := by
  obtain ⟨r, hr⟩ : ∃ r, oddR F = r := ⟨_, rfl⟩
  obtain ⟨Y, hY⟩ : ∃ Y, yRB F = Y := ⟨_, rfl⟩
  have HYB := Aside0.mk (show By Y by rw [← hY]; exact dig_By _)
  have HI := Aside0.mk (fun w => invR_calls (co F 32) w hF.2.2.1)
  have HM1 := Aside0.mk (fun w => mulR_c (co F 16) (invR (co F 32)) w hF.2.1 (rinv hF.2.2.1))
  have HM2 := Aside0.mk (fun w => mulR_c (co F 0) (invR (co F 32)) w hF.1 (rinv hF.2.2.1))
  have HBY : Aside0 (∀ w, Calls Tryd.prog 44 #[.agg (FR .i64 16 (mulR (co F 16) (invR (co F 32))))] w fun e w' => e = .returned (.string (sOf Y)) ∧ Below w.heap.size w w') := ⟨fun w => by rw [← hY]; exact bytesR_c _ w (yR'_Rn hF)⟩
  have HOD : Aside0 (∀ w, Calls Tryd.prog 46 #[.agg (FR .i64 16 (mulR (co F 0) (invR (co F 32))))] w fun e w' => e = .returned (.bool r) ∧ Below w.heap.size w w') := ⟨fun w => by rw [← hr]; exact ref_odd_calls _ w (xR'_Rn hF).cb⟩
  have HRES := Aside0.mk (show (r = false → bytesRP F = Y) ∧ (r = true → bytesRP F = upd Y 31 ((Y 31 + 128) % 256)) from ⟨fun h => bytesRP_n (by rw [hr, h]) hY, fun h => bytesRP_y (by rw [hr, h]) hY⟩)
  clear hr hY hF
  go_enter Tryd.func21, Tryd.ntmps21
  have HR0 := Aside0.mk (Row.new w .i64 64 F 52)
  have HB0 := Aside0.mk (Below.alloc (Below.refl w.heap.size w) (Nat.le_refl _) (.cells (FR .i64 64 F) 52))
  go_wp2_with (refine step_load_at (part_cells HR0.out 32 16 (by omega)) Tryd.underlying50 zL rfl rfl rfl rfl ?_)
  refine (HI.out _).mono ?_
  rintro e w1 ⟨rfl, hb⟩
  have HR1 := Aside0.mk (HR0.out.below hb HR0.out.lt)
  have HB1 := Aside0.mk (HB0.out.trans (hb.mono HB0.out.size))
  clear hb HR0 HB0 HI
  have HR2 := Aside0.mk (HR1.out.alloc (.cells (FR .i64 16 fun _ => 0) 50))
  have HZ2 := Aside0.mk (Row.new w1 .i64 16 (fun _ => 0) 50)
  have HB2 := Aside0.mk (HB1.out.alloc HB1.out.size (.cells (FR .i64 16 fun _ => 0) 50))
  have hlt := HR1.out.lt
  go_wp2_with (first
    | (refine zQ _ HZ2.out zL rfl rfl rfl rfl rfl ?_; intro w3 hs hr3; have HS3 := Aside0.mk hs; have HZ3 := Aside0.mk hr3; have HR3 := Aside0.mk (HR2.out.stored hs (by omega)); have HB3 := Aside0.mk (hs.bel _ _ HB1.out.size HB2.out); clear hs hr3)
    | refine step_load_at (part_cells HR3.out 16 16 (by omega)) Tryd.underlying50 zL rfl rfl rfl rfl ?_
    | refine zX HZ3.out Tryd.underlying50 zL rfl rfl rfl rfl ?_)
  refine (HM1.out _).mono ?_
  rintro e w4 ⟨rfl, hb⟩
  have HR4 := Aside0.mk (HR3.out.below hb HR3.out.lt)
  have HZ4 := Aside0.mk (HZ3.out.below hb HZ3.out.lt)
  have HB4 := Aside0.mk (HB3.out.trans (hb.mono HB3.out.size))
  clear hb HR1 HB1 HR2 HZ2 HB2 HS3 HR3 HZ3 HB3 hlt HM1
  go_wp2_with fail
  refine (HBY.out _).mono ?_
  rintro e w5 ⟨rfl, hb⟩
  have HR5 := Aside0.mk (HR4.out.below hb HR4.out.lt)
  have HZ5 := Aside0.mk (HZ4.out.below hb HZ4.out.lt)
  have HB5 := Aside0.mk (HB4.out.trans (hb.mono HB4.out.size))
  clear hb HR4 HZ4 HB4 HBY
  obtain ⟨w6, c6, hcv, hb, hc, hf⟩ := conv_in Y HYB.out w5
  obtain ⟨g, hg⟩ : ∃ g, w5.heap.size = g := ⟨_, rfl⟩
  have HR6 := Aside0.mk (HR5.out.below hb HR5.out.lt)
  have HZ6 := Aside0.mk (HZ5.out.below hb HZ5.out.lt)
  have HB6 := Aside0.mk (HB5.out.trans (hb.mono HB5.out.size))
  have HG := Aside0.mk (show w.heap.size ≤ g by rw [← hg]; exact HB5.out.size)
  clear hb HR5 HZ5 HB5
  rw [hg] at hcv hc hf
  have HC6 := Aside0.mk hc
  have HF6 := Aside0.mk hf
  have HG6 := Aside0.mk (block_lt_of_cell (hc 0 (by omega)))
  clear hc hf hg
  go_wp2_with (first
    | refine step_load_at (part_cells HR6.out 0 16 (by omega)) Tryd.underlying50 zL rfl rfl rfl rfl ?_
    | refine zX HZ6.out Tryd.underlying50 zL rfl rfl rfl rfl ?_)
  refine (HM2.out _).mono ?_
  rintro e w7 ⟨rfl, hb⟩
  have HC7 := Aside0.mk (fun j hj => (hb.cell (p := ⟨g, j, none⟩) HG6.out).trans (HC6.out j hj))
  have HF7 : Aside0 (∀ j, j < 32 → w7.frozen? ⟨g, j, none⟩ = false) := ⟨fun j hj => by have := HF6.out j hj; unfold World.frozen? at this ⊢; rw [hb.block g HG6.out]; exact this⟩
  have HG7 := Aside0.mk (Nat.lt_of_lt_of_le HG6.out hb.size)
  have HB7 := Aside0.mk (HB6.out.trans (hb.mono HB6.out.size))
  clear hb hcv HR6 HZ6 HB6 HC6 HF6 HG6 HM2
  go_wp2_with fail
  refine (HOD.out _).mono ?_
  rintro e w8 ⟨rfl, hb⟩
  have HC8 := Aside0.mk (fun j hj => (hb.cell (p := ⟨g, j, none⟩) HG7.out).trans (HC7.out j hj))
  have HF8 : Aside0 (∀ j, j < 32 → w8.frozen? ⟨g, j, none⟩ = false) := ⟨fun j hj => by have := HF7.out j hj; unfold World.frozen? at this ⊢; rw [hb.block g HG7.out]; exact this⟩
  have HB8 := Aside0.mk (HB7.out.trans (hb.mono HB7.out.size))
  clear hb HB7 HC7 HF7 HG7 HOD
  cases r
  · have hcv := str_of (c := c6) HC8.out
    go_wp2_with fail
    go_ret
    exact ⟨by rw [HRES.out.1 trivial]; rfl, HB8.out⟩
  · have hc31 := HC8.out 31 (by omega)
    have hf31 := HF8.out 31 (by omega)
    have hY31 := HYB.out 31 (by omega)
    have hcv : (convert 25 9 (.slice (some ⟨g, 0, none⟩) 32 c6)).run Tryd.prog (w8.setCell ⟨g, 31, none⟩ (.int .u8 ((Y 31 + 128) % 256))) = .ok (.string (sOf (upd Y 31 ((Y 31 + 128) % 256)))) (w8.setCell ⟨g, 31, none⟩ (.int .u8 ((Y 31 + 128) % 256))) := str_of (fun j hj => by
      by_cases h : j = 31
      · subst h; rw [World.cell?_setCell_same w8 _ _ hc31]; simp [upd]
      · rw [World.cell?_setCell_other w8 ⟨g, 31, none⟩ ⟨g, j, none⟩ _ (fun e => h (congrArg Addr.off e).symm), HC8.out j hj]; simp [upd, h])
    go_wp2_with fail
    go_ret
    exact ⟨by rw [HRES.out.2 trivial]; rfl, HB8.out.setCell HG.out _⟩
theorem lss_run {x c : Int} {k : IntKind} {t : TypeId} {r : Bool} (h : decide (x < c) = r) (w : World) (p q : Operand) : (do eqGuard .lss t p q (.int k x) (.int k c); binOp .lss t (.int k x) (.int k c) : Sem Value).run Tryd.prog w = .ok (.bool r) w := by subst h; go_simp
theorem add1_run {i : Nat} (hi : i < 1000000) (w : World) (p q : Operand) : (do eqGuard .add 3 p q (.int .i64 (i : Int)) (.int .i64 1); binOp .add 3 (.int .i64 (i : Int)) (.int .i64 1) : Sem Value).run Tryd.prog w = .ok (.int .i64 ((i + 1 : Nat) : Int)) w := by
  have e : IntKind.i64.wrap ((i : Int) + 1) = (i : Int) + 1 := (yF _).trans (w64 _ (by omega))
  go_simp
  try exact e
theorem index_run {i : Nat} (hi : i < 32) (g : Nat) (w : World) : (Instr.indexAt 22 (.pointer (some ⟨g, 0, none⟩)) (.int .i64 (i : Int))).run Tryd.prog w = .ok (.pointer (some ⟨g, i, none⟩)) w := by
  have h1 : (0 : Int) ≤ (i : Int) := by omega
  have h2 : (i : Int) < 32 := by omega
  have h3 : (i : Int).toNat = i := by omega
  go_simp
def bBf (i j : Nat) : Int := if j = 0 then 88 else if j < max i 2 then 102 else 0
theorem bBf_step {i : Nat} (h : 1 ≤ i) : upd (bBf i) i 102 = bBf (i + 1) := by
  funext j
  unfold upd bBf
  by_cases hj : j = i
  · rw [if_pos hj, if_neg (by omega), if_pos (by omega)]
  · rw [if_neg hj]
    by_cases h0 : j = 0
    · rw [if_pos h0, if_pos h0]
    · rw [if_neg h0, if_neg h0]
      by_cases h1 : j < max i 2
      · rw [if_pos h1, if_pos (by omega)]
      · rw [if_neg h1, if_neg (by omega)]
theorem bBf_By (i : Nat) : By (bBf i) := fun j _ => by unfold bBf; repeat' split
                                                       all_goals omega
theorem build_b (w : World) : (Instr.build 22 #[(0, .int .u8 88), (1, .int .u8 102)]).run Tryd.prog w = .ok (.agg (FR .u8 32 (bBf 1))) w := by kernel_rfl
def baseP : Nat → Int := decP (bBf 32)
theorem base_pt (w : World) (hT : TabD w) : Calls Tryd.prog 17 #[] w fun e w' => e = .returned (.agg (FR .u64 20 baseP)) ∧ Below w.heap.size w w' := by
  obtain ⟨X, hX⟩ : ∃ X, decP (bBf 32) = X := ⟨_, rfl⟩
  obtain ⟨Z, hZ⟩ : ∃ Z, decOk (bBf 32) = Z := ⟨_, rfl⟩
  have hD : ∀ w', Below w.heap.size w w' → Calls Tryd.prog 24 #[.agg (FR .u8 32 (bBf 32))] w' fun e w'' => e = .returned (.tuple #[.agg (FR .u64 20 X), .bool Z]) ∧ Below w'.heap.size w' w'' := fun w' hw => by rw [← hX, ← hZ]; exact decode_pt _ w' (hT.below hw hT.lt) (bBf_By 32)
  refine enter_ 18 Tryd.func17 rfl rfl (fun a0 hS => ?_)
  have HS0 : Sl a0 18 [] := hS
  have HH0 : Held w w [] := Held.first w
  clear hS
  refine wp_seq ?_
  have hLo : LOk [(0, 0, .ptr 0 0)] := lok rfl rfl
  refine zJ (wE := w) (sz := 18) (n := 1) [0] [(0, .ptr 0 0)] _ [⟨0, some 0, none, .u64, 20, fun _ => 0, fun _ => 0, 42⟩] rfl (by rfl) HH0 rfl rfl hLo rfl HS0 (slL 0 (d := 0) rfl (trivial)) ?_ ?_
  · show ∀ i ∈ [0], _
    refine zA (zK 0 0 .u64 20 42 none _ _ rfl rfl (fun _ _ _ _ => rfl) rfl hLo rfl rfl rfl rfl (by rfl) (fun b G w _ _ => by kernel_rfl)) ?_
    exact zE
  clear hLo
  intro G a1 w1 hS hH
  have HS1 : Sl a1 18 [(0, .pointer (some ⟨(G 0), 0, none⟩))] := hS
  have HH1 : Held w w1 [⟨(G 0), .u64, 20, fun _ => 0, 42⟩] := hH
  clear hS hH HS0 HH0
  generalize G 0 = g1_0 at HS1 HH1
  refine then_ ?_
  refine wp_seq ?_
  have hLo : LOk [(0, 5, .val (.agg (FR .u8 32 (bBf 1)))), (1, 1, .ptr 1 0)] := lok rfl rfl
  refine zJ (wE := w) (sz := 18) (n := 3) [0, 1, 3] [(0, .val (.pointer (some ⟨g1_0, 0, none⟩))), (1, .ptr 1 0)] _ [⟨g1_0, none, none, .u64, 20, fun _ => 0, fun _ => 0, 42⟩, ⟨0, some 1, some 2, .u8, 32, fun _ => 0, bBf 1, 22⟩] rfl (by rfl) HH1 rfl rfl hLo rfl HS1 (slS 0 rfl rfl (slL 1 (d := 1) rfl (trivial))) ?_ ?_
  · show ∀ i ∈ [0, 1, 2], _
    refine zA (zC 0 _ rfl rfl hLo rfl rfl (fun _ _ _ _ => rfl) (fun b G w hb ho => zZ rfl (parts2 (rfl) (rfl)) (build_b _))) ?_
    refine zA (zK 1 1 .u8 32 22 (some 2) _ _ rfl rfl (fun _ _ _ _ => rfl) rfl hLo rfl rfl rfl rfl (by rfl) (fun b G w _ _ => by kernel_rfl)) ?_
    refine zA (zI 1 _ rfl rfl rfl rfl rfl (fun _ _ _ _ => rfl) rfl rfl rfl (by rfl) infoB3 (fun b G hb ho => zB hLo 1 rfl HS1.1 rfl (hb 1 (by rfl))) (fun b G hb ho => zB hLo 0 rfl HS1.1 rfl (hb 0 (by rfl)))) ?_
    exact zE
  clear hLo
  intro G a2 w2 hS hH
  have HS2 : Sl a2 18 [(0, .pointer (some ⟨g1_0, 0, none⟩)), (1, .pointer (some ⟨(G 1), 0, none⟩))] := hS
  have HH2 : Held w w2 [⟨g1_0, .u64, 20, fun _ => 0, 42⟩, ⟨(G 1), .u8, 32, bBf 1, 22⟩] := hH
  clear hS hH HS1 HH1
  generalize G 1 = g2_1 at HS2 HH2
  refine then_ ?_
  refine wp_seq ?_
  refine wp_seq ?_
  have hLo : LOk [(0, 2, .val (.int .i64 1))] := lok rfl rfl
  refine zJ (wE := w) (sz := 18) (n := 1) [0] [(0, .val (.pointer (some ⟨g1_0, 0, none⟩))), (1, .val (.pointer (some ⟨g2_1, 0, none⟩))), (2, .val (.int .i64 1))] _ [⟨g1_0, none, none, .u64, 20, fun _ => 0, fun _ => 0, 42⟩, ⟨g2_1, none, none, .u8, 32, bBf 1, bBf 1, 22⟩] rfl (by rfl) HH2 rfl rfl hLo rfl HS2 (slS 0 rfl rfl (slS 1 rfl rfl (slL 0 (d := 0) rfl (trivial)))) ?_ ?_
  · show ∀ i ∈ [0], _
    refine zA (zC 0 _ rfl rfl hLo rfl rfl (fun _ _ _ _ => rfl) (fun b G w hb ho => zF (.inr rfl) (rfl))) ?_
    exact zE
  clear hLo
  intro G a3 w3 hS hH
  have HS3 : Sl a3 18 [(0, .pointer (some ⟨g1_0, 0, none⟩)), (1, .pointer (some ⟨g2_1, 0, none⟩)), (2, .int .i64 1)] := hS
  have HH3 : Held w w3 [⟨g1_0, .u64, 20, fun _ => 0, 42⟩, ⟨g2_1, .u8, 32, bBf 1, 22⟩] := hH
  clear hS hH HS2 HH2
  refine then_ ?_
  refine wp_block ?_
  refine wp_loop (fun a w' => ∃ i : Nat, 1 ≤ i ∧ i ≤ 32 ∧ Sl a 18 [(0, .pointer (some ⟨g1_0, 0, none⟩)), (1, .pointer (some ⟨g2_1, 0, none⟩)), (2, .int .i64 ((i : Nat) : Int))] ∧ Held w w' [⟨g1_0, .u64, 20, fun _ => 0, 42⟩, ⟨g2_1, .u8, 32, bBf i, 22⟩]) (fun a _ => 32 - (intOf (a.eval (.tmp 2))).toNat) ⟨1, by omega, by omega, HS3, HH3⟩ ?_
  clear HS3 HH3
  rintro a w1 ⟨i, h1, hi, HSl, HHl⟩
  have hm : (intOf (a.eval (.tmp 2))).toNat = i := by rw [HSl.get 2 rfl]; exact Int.toNat_natCast i
  rw [hm]
  clear hm
  obtain ⟨r, hr⟩ : ∃ r, decide ((i : Int) < 32) = r := ⟨_, rfl⟩
  refine wp_seq ?_
  refine wp_seq ?_
  have hLo : LOk [(0, 6, .val (.int .i64 ((i : Nat) : Int))), (1, 7, .val (.bool r))] := lok rfl rfl
  refine zJ (wE := w) (sz := 18) (n := 2) [0, 1] [(0, .val (.pointer (some ⟨g1_0, 0, none⟩))), (1, .val (.pointer (some ⟨g2_1, 0, none⟩))), (2, .val (.int .i64 ((i : Nat) : Int))), (7, .val (.bool r))] _ [⟨g1_0, none, none, .u64, 20, fun _ => 0, fun _ => 0, 42⟩, ⟨g2_1, none, none, .u8, 32, bBf i, bBf i, 22⟩] rfl (by rfl) HHl rfl rfl hLo rfl HSl (slS 0 rfl rfl (slS 1 rfl rfl (slS 2 rfl rfl (slL 1 (d := 1) rfl (trivial))))) ?_ ?_
  · show ∀ i ∈ [0, 1], _
    refine zA (zC 0 _ rfl rfl hLo rfl rfl (fun _ _ _ _ => rfl) (fun b G w hb ho => zF (.inl rfl) (zD rfl (HSl.get 2 rfl)))) ?_
    refine zA (zC 1 _ rfl rfl hLo rfl rfl (fun _ _ _ _ => rfl) (fun b G w hb ho => zV rfl (zB hLo 0 rfl HSl.1 rfl (hb 0 (by rfl))) (rfl) (lss_run hr _ _ _))) ?_
    exact zE
  clear hLo
  intro G a4 w4 hS hH
  have HS4 : Sl a4 18 [(0, .pointer (some ⟨g1_0, 0, none⟩)), (1, .pointer (some ⟨g2_1, 0, none⟩)), (2, .int .i64 ((i : Nat) : Int)), (7, .bool r)] := hS
  have HH4 : Held w w4 [⟨g1_0, .u64, 20, fun _ => 0, 42⟩, ⟨g2_1, .u8, 32, bBf i, 22⟩] := hH
  clear hS hH HSl HHl
  refine then_ ?_
  cases r
  · skip
    refine wp_cond_false (HS4.get 3 rfl) ?_
    refine wp_exit ?_
    repeat refine then_exit ?_
    refine inBlock_exit ?_
    obtain rfl : i = 32 := by have := of_decide_eq_false hr; omega
    refine then_ ?_
    refine wp_seq ?_
    have hLo : LOk [(0, 13, .val (.agg (FR .u8 32 (bBf 32)))), (1, 14, .val (.tuple #[.agg (FR .u64 20 (X)), .bool Z])), (2, 12, .val (.tuple #[.agg (FR .u64 20 (X)), .bool Z])), (3, 15, .val (.agg (FR .u64 20 (X)))), (4, 16, .val (.bool Z)), (5, 3, .ptr 5 0), (7, 4, .val (.bool Z))] := lok rfl rfl
    refine zJ (wE := w) (sz := 18) (n := 8) [0, 1, 3, 7, 15, 31, 63, 127] [(0, .val (.pointer (some ⟨g1_0, 0, none⟩))), (3, .ptr 5 0)] _ [⟨g1_0, none, none, .u64, 20, fun _ => 0, fun _ => 0, 42⟩, ⟨g2_1, none, none, .u8, 32, bBf 32, bBf 32, 22⟩, ⟨0, some 5, some 6, .u64, 20, fun _ => 0, X, 42⟩] rfl (by rfl) HH4 rfl rfl hLo rfl HS4 (slS 0 rfl rfl (slL 5 (d := 5) rfl (trivial))) ?_ ?_
    · show ∀ i ∈ [0, 1, 2, 3, 4, 5, 6, 7], _
      refine zA (zG 0 1 _ rfl rfl rfl rfl (fun _ _ _ _ => rfl) hLo rfl rfl rfl (by rfl) Tryd.underlying22 infoB3 rfl (fun b G hb ho => zD rfl (HS4.get 1 rfl))) ?_
      refine zA (zH 1 _ #[.agg (FR .u8 32 (bBf 32))] rfl rfl rfl (fun _ _ _ _ => rfl) hLo rfl rfl Tryd.func24 rfl rfl (fun b G hb ho => args1 (zB hLo 0 rfl HS4.1 rfl (hb 0 (by rfl)))) (fun w hw => hD w hw)) ?_
      refine zA (zC 2 _ rfl rfl hLo rfl rfl (fun _ _ _ _ => rfl) (fun b G w hb ho => zF (.inl rfl) (zB hLo 1 rfl HS4.1 rfl (hb 1 (by rfl))))) ?_
      refine zA (zC 3 _ rfl rfl hLo rfl rfl (fun _ _ _ _ => rfl) (fun b G w hb ho => exec_extract rfl (zB hLo 2 rfl HS4.1 rfl (hb 2 (by rfl))) (by rfl))) ?_
      refine zA (zC 4 _ rfl rfl hLo rfl rfl (fun _ _ _ _ => rfl) (fun b G w hb ho => exec_extract rfl (zB hLo 2 rfl HS4.1 rfl (hb 2 (by rfl))) (by rfl))) ?_
      refine zA (zK 5 2 .u64 20 42 (some 6) _ _ rfl rfl (fun _ _ _ _ => rfl) rfl hLo rfl rfl rfl rfl (by rfl) (fun b G w _ _ => by kernel_rfl)) ?_
      refine zA (zI 2 _ rfl rfl rfl rfl rfl (fun _ _ _ _ => rfl) rfl rfl rfl (by rfl) infoPt (fun b G hb ho => zB hLo 5 rfl HS4.1 rfl (hb 5 (by rfl))) (fun b G hb ho => zB hLo 3 rfl HS4.1 rfl (hb 3 (by rfl)))) ?_
      refine zA (zC 6 _ rfl rfl hLo rfl rfl (fun _ _ _ _ => rfl) (fun b G w hb ho => zF (.inr rfl) (zB hLo 4 rfl HS4.1 rfl (hb 4 (by rfl))))) ?_
      exact zE
    clear hLo
    intro G a5 w5 hS hH
    have HS5 : Sl a5 18 [(0, .pointer (some ⟨g1_0, 0, none⟩)), (3, .pointer (some ⟨(G 5), 0, none⟩))] := hS
    have HH5 : Held w w5 [⟨g1_0, .u64, 20, fun _ => 0, 42⟩, ⟨g2_1, .u8, 32, bBf 32, 22⟩, ⟨(G 5), .u64, 20, X, 42⟩] := hH
    clear hS hH HS4 HH4
    generalize G 5 = g5_5 at HS5 HH5
    refine then_ ?_
    refine wp_seq ?_
    have hLo : LOk [(0, 17, .val (.agg (FR .u64 20 (X))))] := lok rfl rfl
    refine zJ (wE := w) (sz := 18) (n := 2) [0, 1] [(0, .val (.pointer (some ⟨g1_0, 0, none⟩)))] _ [⟨g1_0, none, some 1, .u64, 20, fun _ => 0, X, 42⟩, ⟨g2_1, none, none, .u8, 32, bBf 32, bBf 32, 22⟩, ⟨g5_5, none, none, .u64, 20, X, X, 42⟩] rfl (by rfl) HH5 rfl rfl hLo rfl HS5 (slS 0 rfl rfl (trivial)) ?_ ?_
    · show ∀ i ∈ [0, 1], _
      refine zA (zG 0 2 _ rfl rfl rfl rfl (fun _ _ _ _ => rfl) hLo rfl rfl rfl (by rfl) Tryd.underlying42 infoPt rfl (fun b G hb ho => zD rfl (HS5.get 1 rfl))) ?_
      refine zA (zI 0 _ rfl rfl rfl rfl rfl (fun _ _ _ _ => rfl) rfl rfl rfl (by rfl) infoPt (fun b G hb ho => zD rfl (HS5.get 0 rfl)) (fun b G hb ho => zB hLo 0 rfl HS5.1 rfl (hb 0 (by rfl)))) ?_
      exact zE
    clear hLo
    intro G a6 w6 hS hH
    have HS6 : Sl a6 18 [(0, .pointer (some ⟨g1_0, 0, none⟩))] := hS
    have HH6 : Held w w6 [⟨g1_0, .u64, 20, X, 42⟩, ⟨g2_1, .u8, 32, bBf 32, 22⟩, ⟨g5_5, .u64, 20, X, 42⟩] := hH
    clear hS hH HS5 HH5
    refine then_ ?_
    refine wp_ret ?_
    repeat refine yC ?_
    exact b_row rfl HS6.2.1 (HS6.get 0 rfl) (HH6.row 0 rfl) Tryd.underlying42 rfl infoPt ⟨by rw [baseP, hX], HH6.1⟩
  · skip
    refine wp_cond_true (HS4.get 3 rfl) ?_
    refine wp_skip ?_
    refine then_ ?_
    have hi32 : i < 32 := by have := of_decide_eq_true hr; omega
    refine wp_seq ?_
    refine wp_block ?_
    have hLo : LOk [(0, 10, .val (.int .i64 ((i : Nat) : Int))), (1, 11, .val (.pointer (some ⟨g2_1, i, none⟩)))] := lok rfl rfl
    refine zJ (wE := w) (sz := 18) (n := 3) [0, 1, 3] [(0, .val (.pointer (some ⟨g1_0, 0, none⟩))), (1, .val (.pointer (some ⟨g2_1, 0, none⟩))), (2, .val (.int .i64 ((i : Nat) : Int)))] _ [⟨g1_0, none, none, .u64, 20, fun _ => 0, fun _ => 0, 42⟩, ⟨g2_1, none, some 2, .u8, 32, bBf i, upd (bBf i) i (102), 22⟩] rfl (by rfl) HH4 rfl rfl hLo rfl HS4 (slS 0 rfl rfl (slS 1 rfl rfl (slS 2 rfl rfl (trivial)))) ?_ ?_
    · show ∀ i ∈ [0, 1, 2], _
      refine zA (zC 0 _ rfl rfl hLo rfl rfl (fun _ _ _ _ => rfl) (fun b G w hb ho => zF (.inl rfl) (zD rfl (HS4.get 2 rfl)))) ?_
      refine zA (zC 1 _ rfl rfl hLo rfl rfl (fun _ _ _ _ => rfl) (fun b G w hb ho => exec_indexAddr rfl (zD rfl (HS4.get 1 rfl)) (zB hLo 0 rfl HS4.1 rfl (hb 0 (by rfl))) (index_run hi32 _ _))) ?_
      refine zA (st_put 1 _ rfl rfl rfl rfl (fun _ _ _ _ => rfl) rfl rfl rfl (by rfl) (fun b G w hb ho hr => exec_put1 hr hi32 Fd.info5s rfl (zB hLo 1 rfl HS4.1 rfl (hb 1 (by rfl))) (rfl))) ?_
      exact zE
    clear hLo
    intro G a7 w7 hS hH
    have HS7 : Sl a7 18 [(0, .pointer (some ⟨g1_0, 0, none⟩)), (1, .pointer (some ⟨g2_1, 0, none⟩)), (2, .int .i64 ((i : Nat) : Int))] := hS
    have HH7 : Held w w7 [⟨g1_0, .u64, 20, fun _ => 0, 42⟩, ⟨g2_1, .u8, 32, upd (bBf i) i (102), 22⟩] := hH
    clear hS hH HS4 HH4
    refine inBlock_normal ?_
    refine then_ ?_
    rw [bBf_step h1] at HH7
    have hLo : LOk [(0, 8, .val (.int .i64 ((i : Nat) : Int))), (1, 9, .val (.int .i64 ((i + 1 : Nat) : Int))), (2, 2, .val (.int .i64 ((i + 1 : Nat) : Int)))] := lok rfl rfl
    refine zJ (wE := w) (sz := 18) (n := 3) [0, 1, 3] [(0, .val (.pointer (some ⟨g1_0, 0, none⟩))), (1, .val (.pointer (some ⟨g2_1, 0, none⟩))), (2, .val (.int .i64 ((i + 1 : Nat) : Int)))] _ [⟨g1_0, none, none, .u64, 20, fun _ => 0, fun _ => 0, 42⟩, ⟨g2_1, none, none, .u8, 32, bBf (i + 1), bBf (i + 1), 22⟩] rfl (by rfl) HH7 rfl rfl hLo rfl HS7 (slS 0 rfl rfl (slS 1 rfl rfl (slL 2 (d := 2) rfl (trivial)))) ?_ ?_
    · show ∀ i ∈ [0, 1, 2], _
      refine zA (zC 0 _ rfl rfl hLo rfl rfl (fun _ _ _ _ => rfl) (fun b G w hb ho => zF (.inl rfl) (ev_pre hLo 2 rfl (ho 2 (by rfl)) (HS7.get 2 rfl)))) ?_
      refine zA (zC 1 _ rfl rfl hLo rfl rfl (fun _ _ _ _ => rfl) (fun b G w hb ho => zV rfl (zB hLo 0 rfl HS7.1 rfl (hb 0 (by rfl))) (rfl) (add1_run (by omega) _ _ _))) ?_
      refine zA (zC 2 _ rfl rfl hLo rfl rfl (fun _ _ _ _ => rfl) (fun b G w hb ho => zF (.inr rfl) (zB hLo 1 rfl HS7.1 rfl (hb 1 (by rfl))))) ?_
      exact zE
    clear hLo
    intro G a8 w8 hS hH
    have HS8 : Sl a8 18 [(0, .pointer (some ⟨g1_0, 0, none⟩)), (1, .pointer (some ⟨g2_1, 0, none⟩)), (2, .int .i64 ((i + 1 : Nat) : Int))] := hS
    have HH8 : Held w w8 [⟨g1_0, .u64, 20, fun _ => 0, 42⟩, ⟨g2_1, .u8, 32, bBf (i + 1), 22⟩] := hH
    clear hS hH HS7 HH7
    refine then_ ?_
    exact ⟨⟨i + 1, by omega, by omega, HS8, HH8⟩, by rw [HS8.get 2 rfl]; show 32 - (((i + 1 : Nat) : Int)).toNat < 32 - i; omega⟩
theorem shr_run {x : Int} {s : Nat} (hs : s < 8) (w : World) (p q : Operand) : (do eqGuard .shr 5 p q (.int .u8 x) (.int .u64 (s : Int)); binOp .shr 5 (.int .u8 x) (.int .u64 (s : Int)) : Sem Value).run Tryd.prog w = .ok (.int .u8 (x / 2 ^ s)) w := by
  have e : min s 8 = s := Nat.min_eq_left (by omega)
  go_simp
  try rw [e]
theorem conv_uint {s : Nat} (hs : s < 1000000) (w : World) : (convert 3 76 (.int .i64 (s : Int))).run Tryd.prog w = .ok (.int .u64 (s : Int)) w := by
  have e : IntKind.u64.wrap (s : Int) = (s : Int) := by show (s : Int) % 18446744073709551616 = s; omega
  go_simp
  try exact e
theorem quo_run {x c : Nat} (hc : 0 < c) (hx : x < 1000000) (w : World) (p q : Operand) : (do eqGuard .quo 3 p q (.int .i64 (x : Int)) (.int .i64 (c : Int)); binOp .quo 3 (.int .i64 (x : Int)) (.int .i64 (c : Int)) : Sem Value).run Tryd.prog w = .ok (.int .i64 ((x / c : Nat) : Int)) w := by
  have hd : x / c ≤ x := Nat.div_le_self x c
  have e : IntKind.i64.wrap ((x : Int).tdiv (c : Int)) = ((x / c : Nat) : Int) := by
    rw [← Int.ofNat_tdiv]
    generalize x / c = y at hd ⊢
    exact (yF _).trans (w64 _ (by omega))
  have hc0 : ((c : Int) = 0) = False := eq_false (by omega)
  have e2 : IntKind.i64.wrap ((x : Int) / (c : Int)) = ((x / c : Nat) : Int) := by
    rw [← Int.natCast_ediv]
    generalize x / c = y at hd ⊢
    exact (yF _).trans (w64 _ (by omega))
  have hc1 : ¬ c = 0 := by omega
  go_simp
  all_goals first | exact e | exact e2 | (simp_all; done)
theorem rem_run {x c : Nat} (hc : 0 < c) (w : World) (p q : Operand) : (do eqGuard .rem 3 p q (.int .i64 (x : Int)) (.int .i64 (c : Int)); binOp .rem 3 (.int .i64 (x : Int)) (.int .i64 (c : Int)) : Sem Value).run Tryd.prog w = .ok (.int .i64 ((x % c : Nat) : Int)) w := by
  have e : (x : Int).tmod (c : Int) = ((x % c : Nat) : Int) := (Int.ofNat_tmod x c).symm
  have hc0 : ((c : Int) = 0) = False := eq_false (by omega)
  have hc1 : ¬ c = 0 := by omega
  go_simp
  all_goals first | exact e | (simp_all; done)
theorem and1_run {x : Int} (w : World) (p q : Operand) : (do eqGuard .and 5 p q (.int .u8 x) (.int .u8 1); binOp .and 5 (.int .u8 x) (.int .u8 1) : Sem Value).run Tryd.prog w = .ok (.int .u8 (Go.bits .and .u8 x 1)) w := by go_simp
theorem sub1_run {i : Nat} (hi : i < 1000000) (w : World) (p q : Operand) : (do eqGuard .sub 3 p q (.int .i64 (i : Int)) (.int .i64 1); binOp .sub 3 (.int .i64 (i : Int)) (.int .i64 1) : Sem Value).run Tryd.prog w = .ok (.int .i64 ((i : Int) - 1)) w := by
  have e : IntKind.i64.wrap ((i : Int) - 1) = (i : Int) - 1 := (yF _).trans (w64 _ (by omega))
  go_simp
  try exact e
theorem index_sOf {b : Nat → Int} (hb : By b) {i : Nat} (hi : i < 32) (w : World) : (Instr.index 9 (.string (sOf b)) (.int .i64 (i : Int))).run Tryd.prog w = .ok (.int .u8 (b i)) w := by
  have hz := sOf_size b
  have hl : (i : Int) < ((sOf b).size : Int) := by rw [hz]; omega
  have hl2 : i < (sOf b).size := by rw [hz]; omega
  have h31 := hb i hi
  have h0 : (0 : Int) ≤ (i : Int) := by omega
  have e : (((sOf b)[i]'hl2).toNat : Int) = b i := by
    show ((((List.range 32).map b).map fun n => UInt8.ofNat n.toNat).toArray[i].toNat : Int) = b i
    simp
    omega
  go_simp
  all_goals first | exact e | (intro h; omega)
def mulRS (F z : Nat → Int) : Nat → (Nat → Int)
  | 0 => zeroRP
  | s + 1 => if bitB z (255 - s) then addRP (addRP (mulRS F z s) (mulRS F z s)) F else addRP (mulRS F z s) (mulRS F z s)
theorem zeroRP_PR : PR zeroRP := pr_pr Re.zero.1 oneR_Rn oneR_Rn Re.zero.1
theorem mulRS_PR {F z : Nat → Int} (hF : PR F) : ∀ s, PR (mulRS F z s)
  | 0 => zeroRP_PR
  | s + 1 => by
    unfold mulRS
    split
    · exact addRP_PR (addRP_PR (mulRS_PR hF s) (mulRS_PR hF s)) hF
    · exact addRP_PR (mulRS_PR hF s) (mulRS_PR hF s)
def mulRP (F z : Nat → Int) : Nat → Int := mulRS F z 256
theorem mulRS_step {F z : Nat → Int} {k : Nat} (hk : k < 256) : mulRS F z (256 - k) = if bitB z k then addRP (addRP (mulRS F z (256 - (k + 1))) (mulRS F z (256 - (k + 1)))) F else addRP (mulRS F z (256 - (k + 1))) (mulRS F z (256 - (k + 1))) := by
  rw [show 256 - k = (256 - (k + 1)) + 1 by omega]
  show (if bitB z (255 - (256 - (k + 1))) then _ else _) = _
  rw [show 255 - (256 - (k + 1)) = k by omega]
theorem mul_pr (F z : Nat → Int) (w : World) (hF : PR F) (hz : By z) : Calls Tryd.prog 22 #[.agg (FR .i64 64 F), .string (sOf z)] w fun e w' => e = .returned (.agg (FR .i64 64 (mulRP F z))) ∧ Below w.heap.size w w' := by
  obtain ⟨M, hM⟩ : ∃ M, mulRP F z = M := ⟨_, rfl⟩
  rw [hM]
  refine enter_ 29 Tryd.func22 rfl rfl (fun a0 hS => ?_)
  have HS0 : Sl a0 29 [(0, .agg (FR .i64 64 F)), (1, .string (sOf z))] := hS
  have HH0 : Held w w [] := Held.first w
  clear hS
  refine wp_seq ?_
  have hLo : LOk [(0, 2, .ptr 0 0), (1, 4, .ptr 1 0)] := lok rfl rfl
  refine zJ (wE := w) (sz := 29) (n := 2) [0, 1] [(1, .val (.string (sOf z))), (2, .ptr 0 0), (4, .ptr 1 0)] _ [⟨0, some 0, none, .i64, 64, F, F, 52⟩, ⟨0, some 1, none, .i64, 64, fun _ => 0, fun _ => 0, 52⟩] rfl (by rfl) HH0 rfl rfl hLo rfl HS0 (slS 1 rfl rfl (slL 0 (d := 0) rfl (slL 1 (d := 1) rfl (trivial)))) ?_ ?_
  · show ∀ i ∈ [0, 1], _
    refine zA (zK 0 0 .i64 64 52 none _ _ rfl rfl (fun _ _ _ _ => rfl) rfl hLo rfl rfl rfl rfl (by rfl) (fun b G w hb ho => exec_box rfl (zD rfl (HS0.get 0 rfl)) (by kernel_rfl))) ?_
    refine zA (zK 1 1 .i64 64 52 none _ _ rfl rfl (fun _ _ _ _ => rfl) rfl hLo rfl rfl rfl rfl (by rfl) (fun b G w _ _ => by kernel_rfl)) ?_
    exact zE
  clear hLo
  intro G a1 w1 hS hH
  have HS1 : Sl a1 29 [(1, .string (sOf z)), (2, .pointer (some ⟨(G 0), 0, none⟩)), (4, .pointer (some ⟨(G 1), 0, none⟩))] := hS
  have HH1 : Held w w1 [⟨(G 0), .i64, 64, F, 52⟩, ⟨(G 1), .i64, 64, fun _ => 0, 52⟩] := hH
  clear hS hH HS0 HH0
  generalize G 0 = g1_0 at HS1 HH1
  generalize G 1 = g1_1 at HS1 HH1
  refine then_ ?_
  refine wp_seq ?_
  have hLo : LOk [(0, 7, .val (.agg (FR .i64 64 (zeroRP)))), (1, 5, .ptr 1 0)] := lok rfl rfl
  refine zJ (wE := w) (sz := 29) (n := 3) [0, 1, 3] [(1, .val (.string (sOf z))), (2, .val (.pointer (some ⟨g1_0, 0, none⟩))), (4, .val (.pointer (some ⟨g1_1, 0, none⟩))), (5, .ptr 1 0)] _ [⟨g1_0, none, none, .i64, 64, F, F, 52⟩, ⟨g1_1, none, none, .i64, 64, fun _ => 0, fun _ => 0, 52⟩, ⟨0, some 1, some 2, .i64, 64, fun _ => 0, zeroRP, 52⟩] rfl (by rfl) HH1 rfl rfl hLo rfl HS1 (slS 0 rfl rfl (slS 1 rfl rfl (slS 2 rfl rfl (slL 1 (d := 1) rfl (trivial))))) ?_ ?_
  · show ∀ i ∈ [0, 1, 2], _
    refine zA (zH 0 _ #[] rfl rfl rfl (fun _ _ _ _ => rfl) hLo rfl rfl Tryd.func47 rfl rfl (fun b G hb ho => args0 ) (fun w hw => zero_pr w)) ?_
    refine zA (zK 1 2 .i64 64 52 (some 2) _ _ rfl rfl (fun _ _ _ _ => rfl) rfl hLo rfl rfl rfl rfl (by rfl) (fun b G w _ _ => by kernel_rfl)) ?_
    refine zA (zI 2 _ rfl rfl rfl rfl rfl (fun _ _ _ _ => rfl) rfl rfl rfl (by rfl) infoPr (fun b G hb ho => zB hLo 1 rfl HS1.1 rfl (hb 1 (by rfl))) (fun b G hb ho => zB hLo 0 rfl HS1.1 rfl (hb 0 (by rfl)))) ?_
    exact zE
  clear hLo
  intro G a2 w2 hS hH
  have HS2 : Sl a2 29 [(1, .string (sOf z)), (2, .pointer (some ⟨g1_0, 0, none⟩)), (4, .pointer (some ⟨g1_1, 0, none⟩)), (5, .pointer (some ⟨(G 1), 0, none⟩))] := hS
  have HH2 : Held w w2 [⟨g1_0, .i64, 64, F, 52⟩, ⟨g1_1, .i64, 64, fun _ => 0, 52⟩, ⟨(G 1), .i64, 64, zeroRP, 52⟩] := hH
  clear hS hH HS1 HH1
  generalize G 1 = g2_1 at HS2 HH2
  refine then_ ?_
  refine wp_seq ?_
  refine wp_seq ?_
  have hLo : LOk [(0, 6, .val (.int .i64 255))] := lok rfl rfl
  refine zJ (wE := w) (sz := 29) (n := 1) [0] [(1, .val (.string (sOf z))), (2, .val (.pointer (some ⟨g1_0, 0, none⟩))), (4, .val (.pointer (some ⟨g1_1, 0, none⟩))), (5, .val (.pointer (some ⟨g2_1, 0, none⟩))), (6, .val (.int .i64 255))] _ [⟨g1_0, none, none, .i64, 64, F, F, 52⟩, ⟨g1_1, none, none, .i64, 64, fun _ => 0, fun _ => 0, 52⟩, ⟨g2_1, none, none, .i64, 64, zeroRP, zeroRP, 52⟩] rfl (by rfl) HH2 rfl rfl hLo rfl HS2 (slS 0 rfl rfl (slS 1 rfl rfl (slS 2 rfl rfl (slS 3 rfl rfl (slL 0 (d := 0) rfl (trivial)))))) ?_ ?_
  · show ∀ i ∈ [0], _
    refine zA (zC 0 _ rfl rfl hLo rfl rfl (fun _ _ _ _ => rfl) (fun b G w hb ho => zF (.inr rfl) (rfl))) ?_
    exact zE
  clear hLo
  intro G a3 w3 hS hH
  have HS3 : Sl a3 29 [(1, .string (sOf z)), (2, .pointer (some ⟨g1_0, 0, none⟩)), (4, .pointer (some ⟨g1_1, 0, none⟩)), (5, .pointer (some ⟨g2_1, 0, none⟩)), (6, .int .i64 255)] := hS
  have HH3 : Held w w3 [⟨g1_0, .i64, 64, F, 52⟩, ⟨g1_1, .i64, 64, fun _ => 0, 52⟩, ⟨g2_1, .i64, 64, zeroRP, 52⟩] := hH
  clear hS hH HS2 HH2
  refine then_ ?_
  refine wp_block ?_
  refine wp_loop (fun a w' => ∃ i : Nat, i ≤ 256 ∧ Sl a 29 [(1, .string (sOf z)), (2, .pointer (some ⟨g1_0, 0, none⟩)), (4, .pointer (some ⟨g1_1, 0, none⟩)), (5, .pointer (some ⟨g2_1, 0, none⟩)), (6, .int .i64 (((i : Nat) : Int) - 1))] ∧ Held w w' [⟨g1_0, .i64, 64, F, 52⟩, ⟨g1_1, .i64, 64, fun _ => 0, 52⟩, ⟨g2_1, .i64, 64, mulRS F z (256 - i), 52⟩]) (fun a _ => (intOf (a.eval (.tmp 6)) + 1).toNat) ⟨256, by omega, HS3, HH3⟩ ?_
  clear HS3 HH3
  rintro a w1 ⟨i, hi, HSl, HHl⟩
  have hm : (intOf (a.eval (.tmp 6)) + 1).toNat = i := by rw [HSl.get 4 rfl]; show ((i : Int) - 1 + 1).toNat = i; omega
  rw [hm]
  clear hm
  rcases Nat.eq_zero_or_pos i with h0 | h0
  · subst h0
    refine wp_seq ?_
    refine wp_seq ?_
    have hLo : LOk [(0, 8, .val (.int .i64 (((0 : Nat) : Int) - 1))), (1, 9, .val (.bool false))] := lok rfl rfl
    refine zJ (wE := w) (sz := 29) (n := 2) [0, 1] [(4, .val (.pointer (some ⟨g1_1, 0, none⟩))), (5, .val (.pointer (some ⟨g2_1, 0, none⟩))), (9, .val (.bool false))] _ [⟨g1_0, none, none, .i64, 64, F, F, 52⟩, ⟨g1_1, none, none, .i64, 64, fun _ => 0, fun _ => 0, 52⟩, ⟨g2_1, none, none, .i64, 64, mulRS F z (256 - 0), mulRS F z (256 - 0), 52⟩] rfl (by rfl) HHl rfl rfl hLo rfl HSl (slS 2 rfl rfl (slS 3 rfl rfl (slL 1 (d := 1) rfl (trivial)))) ?_ ?_
    · show ∀ i ∈ [0, 1], _
      refine zA (zC 0 _ rfl rfl hLo rfl rfl (fun _ _ _ _ => rfl) (fun b G w hb ho => zF (.inl rfl) (zD rfl (HSl.get 4 rfl)))) ?_
      refine zA (zC 1 _ rfl rfl hLo rfl rfl (fun _ _ _ _ => rfl) (fun b G w hb ho => zV rfl (zB hLo 0 rfl HSl.1 rfl (hb 0 (by rfl))) (rfl) (geq_run (by decide) _ _ _))) ?_
      exact zE
    clear hLo
    intro G a4 w4 hS hH
    have HS4 : Sl a4 29 [(4, .pointer (some ⟨g1_1, 0, none⟩)), (5, .pointer (some ⟨g2_1, 0, none⟩)), (9, .bool false)] := hS
    have HH4 : Held w w4 [⟨g1_0, .i64, 64, F, 52⟩, ⟨g1_1, .i64, 64, fun _ => 0, 52⟩, ⟨g2_1, .i64, 64, mulRS F z (256 - 0), 52⟩] := hH
    clear hS hH HSl HHl
    refine then_ ?_
    refine wp_cond_false (HS4.get 2 rfl) ?_
    refine wp_exit ?_
    repeat refine then_exit ?_
    refine inBlock_exit ?_
    refine then_ ?_
    have hMM : mulRS F z (256 - 0) = M := hM
    rw [hMM] at HH4
    refine wp_seq ?_
    have hLo : LOk [(0, 28, .val (.agg (FR .i64 64 (M))))] := lok rfl rfl
    refine zJ (wE := w) (sz := 29) (n := 2) [0, 1] [(4, .val (.pointer (some ⟨g1_1, 0, none⟩)))] _ [⟨g1_0, none, none, .i64, 64, F, F, 52⟩, ⟨g1_1, none, some 1, .i64, 64, fun _ => 0, M, 52⟩, ⟨g2_1, none, none, .i64, 64, M, M, 52⟩] rfl (by rfl) HH4 rfl rfl hLo rfl HS4 (slS 0 rfl rfl (trivial)) ?_ ?_
    · show ∀ i ∈ [0, 1], _
      refine zA (zG 0 2 _ rfl rfl rfl rfl (fun _ _ _ _ => rfl) hLo rfl rfl rfl (by rfl) Tryd.underlying52 infoPr rfl (fun b G hb ho => zD rfl (HS4.get 1 rfl))) ?_
      refine zA (zI 1 _ rfl rfl rfl rfl rfl (fun _ _ _ _ => rfl) rfl rfl rfl (by rfl) infoPr (fun b G hb ho => zD rfl (HS4.get 0 rfl)) (fun b G hb ho => zB hLo 0 rfl HS4.1 rfl (hb 0 (by rfl)))) ?_
      exact zE
    clear hLo
    intro G a5 w5 hS hH
    have HS5 : Sl a5 29 [(4, .pointer (some ⟨g1_1, 0, none⟩))] := hS
    have HH5 : Held w w5 [⟨g1_0, .i64, 64, F, 52⟩, ⟨g1_1, .i64, 64, M, 52⟩, ⟨g2_1, .i64, 64, M, 52⟩] := hH
    clear hS hH HS4 HH4
    refine then_ ?_
    refine wp_ret ?_
    repeat refine yC ?_
    exact b_row rfl HS5.2.1 (HS5.get 0 rfl) (HH5.row 1 rfl) Tryd.underlying52 rfl infoPr ⟨rfl, HH5.1⟩
  · obtain ⟨k, rfl⟩ : ∃ k, i = k + 1 := ⟨i - 1, by omega⟩
    have e1 : ((k + 1 : Nat) : Int) - 1 = (k : Int) := by omega
    rw [e1] at HSl
    have hst := mulRS_step (F := F) (z := z) (k := k) (by omega)
    have hQ := mulRS_PR (F := F) (z := z) hF (256 - (k + 1))
    generalize mulRS F z (256 - (k + 1)) = q at HHl hst hQ
    obtain ⟨r, hr⟩ : ∃ r, bitB z k = r := ⟨_, rfl⟩
    rw [hr] at hst
    have hk32 : k / 8 < 32 := by omega
    have hk8 : k % 8 < 8 := by omega
    have hzk := hz (k / 8) hk32
    have hix := fun w => index_sOf hz hk32 w
    have hbt : ((Go.bits .and .u8 (z (k / 8) / 2 ^ (k % 8)) 1) == 1) = r := by rw [bit_and z k hzk]; exact hr
    refine wp_seq ?_
    refine wp_seq ?_
    have hLo : LOk [(0, 8, .val (.int .i64 ((k : Nat) : Int))), (1, 9, .val (.bool true))] := lok rfl rfl
    refine zJ (wE := w) (sz := 29) (n := 2) [0, 1] [(1, .val (.string (sOf z))), (2, .val (.pointer (some ⟨g1_0, 0, none⟩))), (4, .val (.pointer (some ⟨g1_1, 0, none⟩))), (5, .val (.pointer (some ⟨g2_1, 0, none⟩))), (6, .val (.int .i64 ((k : Nat) : Int))), (9, .val (.bool true))] _ [⟨g1_0, none, none, .i64, 64, F, F, 52⟩, ⟨g1_1, none, none, .i64, 64, fun _ => 0, fun _ => 0, 52⟩, ⟨g2_1, none, none, .i64, 64, q, q, 52⟩] rfl (by rfl) HHl rfl rfl hLo rfl HSl (slS 0 rfl rfl (slS 1 rfl rfl (slS 2 rfl rfl (slS 3 rfl rfl (slS 4 rfl rfl (slL 1 (d := 1) rfl (trivial))))))) ?_ ?_
    · show ∀ i ∈ [0, 1], _
      refine zA (zC 0 _ rfl rfl hLo rfl rfl (fun _ _ _ _ => rfl) (fun b G w hb ho => zF (.inl rfl) (zD rfl (HSl.get 4 rfl)))) ?_
      refine zA (zC 1 _ rfl rfl hLo rfl rfl (fun _ _ _ _ => rfl) (fun b G w hb ho => zV rfl (zB hLo 0 rfl HSl.1 rfl (hb 0 (by rfl))) (rfl) (geq_run (decide_eq_true (Int.natCast_nonneg k)) _ _ _))) ?_
      exact zE
    clear hLo
    intro G a6 w6 hS hH
    have HS6 : Sl a6 29 [(1, .string (sOf z)), (2, .pointer (some ⟨g1_0, 0, none⟩)), (4, .pointer (some ⟨g1_1, 0, none⟩)), (5, .pointer (some ⟨g2_1, 0, none⟩)), (6, .int .i64 ((k : Nat) : Int)), (9, .bool true)] := hS
    have HH6 : Held w w6 [⟨g1_0, .i64, 64, F, 52⟩, ⟨g1_1, .i64, 64, fun _ => 0, 52⟩, ⟨g2_1, .i64, 64, q, 52⟩] := hH
    clear hS hH HSl HHl
    refine then_ ?_
    refine wp_cond_true (HS6.get 5 rfl) ?_
    refine wp_skip ?_
    refine then_ ?_
    refine wp_seq ?_
    refine wp_block ?_
    refine wp_seq ?_
    have hLo : LOk [(0, 12, .val (.agg (FR .i64 64 (q)))), (1, 13, .val (.agg (FR .i64 64 (q)))), (2, 14, .val (.agg (FR .i64 64 (addRP (q) (q)))))] := lok rfl rfl
    refine zJ (wE := w) (sz := 29) (n := 4) [0, 1, 3, 7] [(1, .val (.string (sOf z))), (2, .val (.pointer (some ⟨g1_0, 0, none⟩))), (4, .val (.pointer (some ⟨g1_1, 0, none⟩))), (5, .val (.pointer (some ⟨g2_1, 0, none⟩))), (6, .val (.int .i64 ((k : Nat) : Int)))] _ [⟨g1_0, none, none, .i64, 64, F, F, 52⟩, ⟨g1_1, none, none, .i64, 64, fun _ => 0, fun _ => 0, 52⟩, ⟨g2_1, none, some 3, .i64, 64, q, addRP (q) (q), 52⟩] rfl (by rfl) HH6 rfl rfl hLo rfl HS6 (slS 0 rfl rfl (slS 1 rfl rfl (slS 2 rfl rfl (slS 3 rfl rfl (slS 4 rfl rfl (trivial)))))) ?_ ?_
    · show ∀ i ∈ [0, 1, 2, 3], _
      refine zA (zG 0 2 _ rfl rfl rfl rfl (fun _ _ _ _ => rfl) hLo rfl rfl rfl (by rfl) Tryd.underlying52 infoPr rfl (fun b G hb ho => zD rfl (HS6.get 3 rfl))) ?_
      refine zA (zG 1 2 _ rfl rfl rfl rfl (fun _ _ _ _ => rfl) hLo rfl rfl rfl (by rfl) Tryd.underlying52 infoPr rfl (fun b G hb ho => zD rfl (HS6.get 3 rfl))) ?_
      refine zA (zH 2 _ #[.agg (FR .i64 64 (q)), .agg (FR .i64 64 (q))] rfl rfl rfl (fun _ _ _ _ => rfl) hLo rfl rfl Tryd.func32 rfl rfl (fun b G hb ho => zU (zB hLo 0 rfl HS6.1 rfl (hb 0 (by rfl))) (zB hLo 1 rfl HS6.1 rfl (hb 1 (by rfl)))) (fun w hw => add_pr _ _ w (hQ) (hQ))) ?_
      refine zA (zI 2 _ rfl rfl rfl rfl rfl (fun _ _ _ _ => rfl) rfl rfl rfl (by rfl) infoPr (fun b G hb ho => zD rfl (HS6.get 3 rfl)) (fun b G hb ho => zB hLo 2 rfl HS6.1 rfl (hb 2 (by rfl)))) ?_
      exact zE
    clear hLo
    intro G a7 w7 hS hH
    have HS7 : Sl a7 29 [(1, .string (sOf z)), (2, .pointer (some ⟨g1_0, 0, none⟩)), (4, .pointer (some ⟨g1_1, 0, none⟩)), (5, .pointer (some ⟨g2_1, 0, none⟩)), (6, .int .i64 ((k : Nat) : Int))] := hS
    have HH7 : Held w w7 [⟨g1_0, .i64, 64, F, 52⟩, ⟨g1_1, .i64, 64, fun _ => 0, 52⟩, ⟨g2_1, .i64, 64, addRP (q) (q), 52⟩] := hH
    clear hS hH HS6 HH6
    refine then_ ?_
    refine wp_seq ?_
    have hLo : LOk [(0, 15, .val (.string (sOf z))), (1, 16, .val (.int .i64 ((k : Nat) : Int))), (2, 17, .val (.int .i64 ((k / 8 : Nat) : Int))), (3, 18, .val (.int .u8 (z (k / 8)))), (4, 19, .val (.int .i64 ((k : Nat) : Int))), (5, 20, .val (.int .i64 ((k % 8 : Nat) : Int))), (6, 21, .val (.int .u64 ((k % 8 : Nat) : Int))), (7, 22, .val (.int .u8 (z (k / 8) / 2 ^ (k % 8)))), (8, 23, .val (.int .u8 (Go.bits .and .u8 (z (k / 8) / 2 ^ (k % 8)) 1))), (9, 24, .val (.bool r))] := lok rfl rfl
    refine zJ (wE := w) (sz := 29) (n := 10) [0, 1, 3, 7, 15, 31, 63, 127, 255, 511] [(1, .val (.string (sOf z))), (2, .val (.pointer (some ⟨g1_0, 0, none⟩))), (4, .val (.pointer (some ⟨g1_1, 0, none⟩))), (5, .val (.pointer (some ⟨g2_1, 0, none⟩))), (6, .val (.int .i64 ((k : Nat) : Int))), (24, .val (.bool r))] _ [⟨g1_0, none, none, .i64, 64, F, F, 52⟩, ⟨g1_1, none, none, .i64, 64, fun _ => 0, fun _ => 0, 52⟩, ⟨g2_1, none, none, .i64, 64, addRP (q) (q), addRP (q) (q), 52⟩] rfl (by rfl) HH7 rfl rfl hLo rfl HS7 (slS 0 rfl rfl (slS 1 rfl rfl (slS 2 rfl rfl (slS 3 rfl rfl (slS 4 rfl rfl (slL 9 (d := 9) rfl (trivial))))))) ?_ ?_
    · show ∀ i ∈ [0, 1, 2, 3, 4, 5, 6, 7, 8, 9], _
      refine zA (zC 0 _ rfl rfl hLo rfl rfl (fun _ _ _ _ => rfl) (fun b G w hb ho => zF (.inl rfl) (zD rfl (HS7.get 0 rfl)))) ?_
      refine zA (zC 1 _ rfl rfl hLo rfl rfl (fun _ _ _ _ => rfl) (fun b G w hb ho => zF (.inl rfl) (zD rfl (HS7.get 4 rfl)))) ?_
      refine zA (zC 2 _ rfl rfl hLo rfl rfl (fun _ _ _ _ => rfl) (fun b G w hb ho => zV rfl (zB hLo 1 rfl HS7.1 rfl (hb 1 (by rfl))) (rfl) (quo_run (c := 8) (by decide) (by omega) _ _ _))) ?_
      refine zA (zC 3 _ rfl rfl hLo rfl rfl (fun _ _ _ _ => rfl) (fun b G w hb ho => exec_index rfl (zB hLo 0 rfl HS7.1 rfl (hb 0 (by rfl))) (zB hLo 2 rfl HS7.1 rfl (hb 2 (by rfl))) (hix _))) ?_
      refine zA (zC 4 _ rfl rfl hLo rfl rfl (fun _ _ _ _ => rfl) (fun b G w hb ho => zF (.inl rfl) (zD rfl (HS7.get 4 rfl)))) ?_
      refine zA (zC 5 _ rfl rfl hLo rfl rfl (fun _ _ _ _ => rfl) (fun b G w hb ho => zV rfl (zB hLo 4 rfl HS7.1 rfl (hb 4 (by rfl))) (rfl) (rem_run (c := 8) (by decide) _ _ _))) ?_
      refine zA (zC 6 _ rfl rfl hLo rfl rfl (fun _ _ _ _ => rfl) (fun b G w hb ho => exec_convert rfl (zB hLo 5 rfl HS7.1 rfl (hb 5 (by rfl))) (conv_uint (by omega) _))) ?_
      refine zA (zC 7 _ rfl rfl hLo rfl rfl (fun _ _ _ _ => rfl) (fun b G w hb ho => zV rfl (zB hLo 3 rfl HS7.1 rfl (hb 3 (by rfl))) (zB hLo 6 rfl HS7.1 rfl (hb 6 (by rfl))) (shr_run hk8 _ _ _))) ?_
      refine zA (zC 8 _ rfl rfl hLo rfl rfl (fun _ _ _ _ => rfl) (fun b G w hb ho => zV rfl (zB hLo 7 rfl HS7.1 rfl (hb 7 (by rfl))) (rfl) (and1_run _ _ _))) ?_
      refine zA (zC 9 _ rfl rfl hLo rfl rfl (fun _ _ _ _ => rfl) (fun b G w hb ho => zV rfl (zB hLo 8 rfl HS7.1 rfl (hb 8 (by rfl))) (rfl) (eq_run hbt _ _ _))) ?_
      exact zE
    clear hLo
    intro G a8 w8 hS hH
    have HS8 : Sl a8 29 [(1, .string (sOf z)), (2, .pointer (some ⟨g1_0, 0, none⟩)), (4, .pointer (some ⟨g1_1, 0, none⟩)), (5, .pointer (some ⟨g2_1, 0, none⟩)), (6, .int .i64 ((k : Nat) : Int)), (24, .bool r)] := hS
    have HH8 : Held w w8 [⟨g1_0, .i64, 64, F, 52⟩, ⟨g1_1, .i64, 64, fun _ => 0, 52⟩, ⟨g2_1, .i64, 64, addRP (q) (q), 52⟩] := hH
    clear hS hH HS7 HH7
    refine then_ ?_
    cases r
    · skip
      refine wp_cond_false (HS8.get 5 rfl) ?_
      refine wp_skip ?_
      refine inBlock_normal ?_
      refine then_ ?_
      have hq2 : mulRS F z (256 - k) = addRP q q := hst
      rw [← hq2] at HH8
      have hLo : LOk [(0, 10, .val (.int .i64 ((k : Nat) : Int))), (1, 11, .val (.int .i64 (((k : Nat) : Int) - 1))), (2, 6, .val (.int .i64 (((k : Nat) : Int) - 1)))] := lok rfl rfl
      refine zJ (wE := w) (sz := 29) (n := 3) [0, 1, 3] [(1, .val (.string (sOf z))), (2, .val (.pointer (some ⟨g1_0, 0, none⟩))), (4, .val (.pointer (some ⟨g1_1, 0, none⟩))), (5, .val (.pointer (some ⟨g2_1, 0, none⟩))), (6, .val (.int .i64 (((k : Nat) : Int) - 1)))] _ [⟨g1_0, none, none, .i64, 64, F, F, 52⟩, ⟨g1_1, none, none, .i64, 64, fun _ => 0, fun _ => 0, 52⟩, ⟨g2_1, none, none, .i64, 64, mulRS F z (256 - k), mulRS F z (256 - k), 52⟩] rfl (by rfl) HH8 rfl rfl hLo rfl HS8 (slS 0 rfl rfl (slS 1 rfl rfl (slS 2 rfl rfl (slS 3 rfl rfl (slL 2 (d := 2) rfl (trivial)))))) ?_ ?_
      · show ∀ i ∈ [0, 1, 2], _
        refine zA (zC 0 _ rfl rfl hLo rfl rfl (fun _ _ _ _ => rfl) (fun b G w hb ho => zF (.inl rfl) (ev_pre hLo 2 rfl (ho 2 (by rfl)) (HS8.get 4 rfl)))) ?_
        refine zA (zC 1 _ rfl rfl hLo rfl rfl (fun _ _ _ _ => rfl) (fun b G w hb ho => zV rfl (zB hLo 0 rfl HS8.1 rfl (hb 0 (by rfl))) (rfl) (sub1_run (by omega) _ _ _))) ?_
        refine zA (zC 2 _ rfl rfl hLo rfl rfl (fun _ _ _ _ => rfl) (fun b G w hb ho => zF (.inr rfl) (zB hLo 1 rfl HS8.1 rfl (hb 1 (by rfl))))) ?_
        exact zE
      clear hLo
      intro G a9 w9 hS hH
      have HS9 : Sl a9 29 [(1, .string (sOf z)), (2, .pointer (some ⟨g1_0, 0, none⟩)), (4, .pointer (some ⟨g1_1, 0, none⟩)), (5, .pointer (some ⟨g2_1, 0, none⟩)), (6, .int .i64 (((k : Nat) : Int) - 1))] := hS
      have HH9 : Held w w9 [⟨g1_0, .i64, 64, F, 52⟩, ⟨g1_1, .i64, 64, fun _ => 0, 52⟩, ⟨g2_1, .i64, 64, mulRS F z (256 - k), 52⟩] := hH
      clear hS hH HS8 HH8
      refine then_ ?_
      exact ⟨⟨k, by omega, HS9, HH9⟩, by rw [HS9.get 4 rfl]; show ((k : Int) - 1 + 1).toNat < k + 1; omega⟩
    · skip
      refine wp_cond_true (HS8.get 5 rfl) ?_
      have hLo : LOk [(0, 25, .val (.agg (FR .i64 64 (addRP (q) (q))))), (1, 26, .val (.agg (FR .i64 64 (F)))), (2, 27, .val (.agg (FR .i64 64 (addRP (addRP (q) (q)) (F)))))] := lok rfl rfl
      refine zJ (wE := w) (sz := 29) (n := 4) [0, 1, 3, 7] [(1, .val (.string (sOf z))), (2, .val (.pointer (some ⟨g1_0, 0, none⟩))), (4, .val (.pointer (some ⟨g1_1, 0, none⟩))), (5, .val (.pointer (some ⟨g2_1, 0, none⟩))), (6, .val (.int .i64 ((k : Nat) : Int)))] _ [⟨g1_0, none, none, .i64, 64, F, F, 52⟩, ⟨g1_1, none, none, .i64, 64, fun _ => 0, fun _ => 0, 52⟩, ⟨g2_1, none, some 3, .i64, 64, addRP (q) (q), addRP (addRP (q) (q)) (F), 52⟩] rfl (by rfl) HH8 rfl rfl hLo rfl HS8 (slS 0 rfl rfl (slS 1 rfl rfl (slS 2 rfl rfl (slS 3 rfl rfl (slS 4 rfl rfl (trivial)))))) ?_ ?_
      · show ∀ i ∈ [0, 1, 2, 3], _
        refine zA (zG 0 2 _ rfl rfl rfl rfl (fun _ _ _ _ => rfl) hLo rfl rfl rfl (by rfl) Tryd.underlying52 infoPr rfl (fun b G hb ho => zD rfl (HS8.get 3 rfl))) ?_
        refine zA (zG 1 0 _ rfl rfl rfl rfl (fun _ _ _ _ => rfl) hLo rfl rfl rfl (by rfl) Tryd.underlying52 infoPr rfl (fun b G hb ho => zD rfl (HS8.get 1 rfl))) ?_
        refine zA (zH 2 _ #[.agg (FR .i64 64 (addRP (q) (q))), .agg (FR .i64 64 (F))] rfl rfl rfl (fun _ _ _ _ => rfl) hLo rfl rfl Tryd.func32 rfl rfl (fun b G hb ho => zU (zB hLo 0 rfl HS8.1 rfl (hb 0 (by rfl))) (zB hLo 1 rfl HS8.1 rfl (hb 1 (by rfl)))) (fun w hw => add_pr _ _ w (addRP_PR (hQ) (hQ)) (hF))) ?_
        refine zA (zI 2 _ rfl rfl rfl rfl rfl (fun _ _ _ _ => rfl) rfl rfl rfl (by rfl) infoPr (fun b G hb ho => zD rfl (HS8.get 3 rfl)) (fun b G hb ho => zB hLo 2 rfl HS8.1 rfl (hb 2 (by rfl)))) ?_
        exact zE
      clear hLo
      intro G a10 w10 hS hH
      have HS10 : Sl a10 29 [(1, .string (sOf z)), (2, .pointer (some ⟨g1_0, 0, none⟩)), (4, .pointer (some ⟨g1_1, 0, none⟩)), (5, .pointer (some ⟨g2_1, 0, none⟩)), (6, .int .i64 ((k : Nat) : Int))] := hS
      have HH10 : Held w w10 [⟨g1_0, .i64, 64, F, 52⟩, ⟨g1_1, .i64, 64, fun _ => 0, 52⟩, ⟨g2_1, .i64, 64, addRP (addRP (q) (q)) (F), 52⟩] := hH
      clear hS hH HS8 HH8
      refine inBlock_normal ?_
      refine then_ ?_
      have hq2 : mulRS F z (256 - k) = addRP (addRP q q) F := hst
      rw [← hq2] at HH10
      have hLo : LOk [(0, 10, .val (.int .i64 ((k : Nat) : Int))), (1, 11, .val (.int .i64 (((k : Nat) : Int) - 1))), (2, 6, .val (.int .i64 (((k : Nat) : Int) - 1)))] := lok rfl rfl
      refine zJ (wE := w) (sz := 29) (n := 3) [0, 1, 3] [(1, .val (.string (sOf z))), (2, .val (.pointer (some ⟨g1_0, 0, none⟩))), (4, .val (.pointer (some ⟨g1_1, 0, none⟩))), (5, .val (.pointer (some ⟨g2_1, 0, none⟩))), (6, .val (.int .i64 (((k : Nat) : Int) - 1)))] _ [⟨g1_0, none, none, .i64, 64, F, F, 52⟩, ⟨g1_1, none, none, .i64, 64, fun _ => 0, fun _ => 0, 52⟩, ⟨g2_1, none, none, .i64, 64, mulRS F z (256 - k), mulRS F z (256 - k), 52⟩] rfl (by rfl) HH10 rfl rfl hLo rfl HS10 (slS 0 rfl rfl (slS 1 rfl rfl (slS 2 rfl rfl (slS 3 rfl rfl (slL 2 (d := 2) rfl (trivial)))))) ?_ ?_
      · show ∀ i ∈ [0, 1, 2], _
        refine zA (zC 0 _ rfl rfl hLo rfl rfl (fun _ _ _ _ => rfl) (fun b G w hb ho => zF (.inl rfl) (ev_pre hLo 2 rfl (ho 2 (by rfl)) (HS10.get 4 rfl)))) ?_
        refine zA (zC 1 _ rfl rfl hLo rfl rfl (fun _ _ _ _ => rfl) (fun b G w hb ho => zV rfl (zB hLo 0 rfl HS10.1 rfl (hb 0 (by rfl))) (rfl) (sub1_run (by omega) _ _ _))) ?_
        refine zA (zC 2 _ rfl rfl hLo rfl rfl (fun _ _ _ _ => rfl) (fun b G w hb ho => zF (.inr rfl) (zB hLo 1 rfl HS10.1 rfl (hb 1 (by rfl))))) ?_
        exact zE
      clear hLo
      intro G a11 w11 hS hH
      have HS11 : Sl a11 29 [(1, .string (sOf z)), (2, .pointer (some ⟨g1_0, 0, none⟩)), (4, .pointer (some ⟨g1_1, 0, none⟩)), (5, .pointer (some ⟨g2_1, 0, none⟩)), (6, .int .i64 (((k : Nat) : Int) - 1))] := hS
      have HH11 : Held w w11 [⟨g1_0, .i64, 64, F, 52⟩, ⟨g1_1, .i64, 64, fun _ => 0, 52⟩, ⟨g2_1, .i64, 64, mulRS F z (256 - k), 52⟩] := hH
      clear hS hH HS10 HH10
      refine then_ ?_
      exact ⟨⟨k, by omega, HS11, HH11⟩, by rw [HS11.get 4 rfl]; show ((k : Int) - 1 + 1).toNat < k + 1; omega⟩
theorem index74_run {k : IntKind} {i : Nat} (hi : i < 16) (g : Nat) (w : World) : (Instr.indexAt 68 (.pointer (some ⟨g, 0, none⟩)) (.int k (i : Int))).run Tryd.prog w = .ok (.pointer (some ⟨g, i * 20, none⟩)) w := by
  have h1 : (0 : Int) ≤ (i : Int) := by omega
  have h2 : (i : Int) < 16 := by omega
  have h3 : (i : Int).toNat = i := by omega
  have h4 : (⟨g, 0, none⟩ : Addr).add (i * 20) = ⟨g, i * 20, none⟩ := by rw [add_at, Nat.zero_add]
  go_simp
  try exact h4
theorem subk_run {k : Nat} (hi : k < 1000) (w : World) (p q : Operand) : (do eqGuard .sub 3 p q (.int .i64 ((k + 1 : Nat) : Int)) (.int .i64 1); binOp .sub 3 (.int .i64 ((k + 1 : Nat) : Int)) (.int .i64 1) : Sem Value).run Tryd.prog w = .ok (.int .i64 (k : Int)) w := by
  have e1 : ((k + 1 : Nat) : Int) - 1 = (k : Int) := by omega
  have := sub1_run (i := k + 1) (by omega) w p q
  rw [e1] at this
  exact this
theorem mul4_run {x : Nat} (hx : x < 1000) (w : World) (p q : Operand) : (do eqGuard .mul 3 p q (.int .i64 (x : Int)) (.int .i64 4); binOp .mul 3 (.int .i64 (x : Int)) (.int .i64 4) : Sem Value).run Tryd.prog w = .ok (.int .i64 ((x * 4 : Nat) : Int)) w := by
  have e : IntKind.i64.wrap ((x : Int) * 4) = ((x * 4 : Nat) : Int) := by rw [yF, w64 _ (by omega)]; omega
  go_simp
  try exact e
theorem shrI_run {x : Int} {s : Nat} (hs : s < 8) (w : World) (p q : Operand) : (do eqGuard .shr 5 p q (.int .u8 x) (.int .i64 (s : Int)); binOp .shr 5 (.int .u8 x) (.int .i64 (s : Int)) : Sem Value).run Tryd.prog w = .ok (.int .u8 (x / 2 ^ s)) w := by
  have e : min s 8 = s := Nat.min_eq_left (by omega)
  have h0 : (0 : Int) ≤ (s : Int) := by omega
  go_simp
  try rw [e]
theorem and15 (x : Int) (h : 0 ≤ x ∧ x < 256) : Go.bits .and .u8 x 15 = x % 16 := by
  have hx : ∀ n : Fin 256, Go.bits .and .u8 (n.val : Int) 15 = (n.val : Int) % 16 := by decide +kernel
  have := hx ⟨x.toNat, by omega⟩
  simp only [Int.toNat_of_nonneg h.1] at this
  exact this
theorem and15_run {x y : Int} (h : Go.bits .and .u8 x 15 = y) (w : World) (p q : Operand) : (do eqGuard .and 5 p q (.int .u8 x) (.int .u8 15); binOp .and 5 (.int .u8 x) (.int .u8 15) : Sem Value).run Tryd.prog w = .ok (.int .u8 y) w := by subst h; go_simp
theorem zeroP_PL : PL zeroP := pl_pt Fe.zero.1 (smL_Lm 1 (by omega)) (smL_Lm 1 (by omega)) Fe.zero.1
def rowP (F : Nat → Int) : Nat → (Nat → Int)
  | 0 => zeroP
  | i + 1 => addP (rowP F i) F
theorem rowP_PL {F : Nat → Int} (hF : PL F) : ∀ i, PL (rowP F i)
  | 0 => zeroP_PL
  | i + 1 => addP_PL (rowP_PL hF i) hF
def tabP (F : Nat → Int) (n j : Nat) : Int := if j < 20 * n then rowP F (j / 20) (j % 20) else 0
theorem tabP_step (F : Nat → Int) (n : Nat) : updR (tabP F n) (n * 20) 20 (rowP F n) = tabP F (n + 1) := by
  funext j
  unfold updR tabP
  by_cases h1 : n * 20 ≤ j ∧ j < n * 20 + 20
  · rw [if_pos h1, if_pos (by omega), show j / 20 = n by omega]
    congr 1; omega
  · rw [if_neg h1]
    by_cases h2 : j < 20 * n
    · rw [if_pos h2, if_pos (by omega)]
    · rw [if_neg h2, if_neg (by omega)]
theorem tabP_zero (F : Nat → Int) : (fun _ => 0) = tabP F 0 := by funext j; unfold tabP; rw [if_neg (by omega)]
theorem tabP_at {F : Nat → Int} {n k : Nat} (hk : k < n) (j : Nat) (hj : j < 20) : tabP F n (k * 20 + j) = rowP F k j := by
  unfold tabP
  rw [if_pos (by omega), show (k * 20 + j) / 20 = k by omega, show (k * 20 + j) % 20 = j by omega]
def dblN (q : Nat → Int) : Nat → (Nat → Int)
  | 0 => q
  | j + 1 => addP (dblN q j) (dblN q j)
theorem dblN_PL {q : Nat → Int} (hq : PL q) : ∀ j, PL (dblN q j)
  | 0 => hq
  | j + 1 => addP_PL (dblN_PL hq j) (dblN_PL hq j)
def nib (z : Nat → Int) (k : Nat) : Nat := (z (k / 2) / 2 ^ (k % 2 * 4) % 16).toNat
theorem nib_lt (z : Nat → Int) (k : Nat) : nib z k < 16 := by unfold nib; omega
def mulS (F z : Nat → Int) : Nat → (Nat → Int)
  | 0 => zeroP
  | s + 1 => addP (dblN (mulS F z s) 4) (rowP F (nib z (63 - s)))
theorem mulS_PL {F z : Nat → Int} (hF : PL F) : ∀ s, PL (mulS F z s)
  | 0 => zeroP_PL
  | s + 1 => addP_PL (dblN_PL (mulS_PL hF s) 4) (rowP_PL hF _)
def mulP (F z : Nat → Int) : Nat → Int := mulS F z 64
theorem mulS_step {F z : Nat → Int} {k : Nat} (hk : k < 64) : mulS F z (64 - k) = addP (dblN (mulS F z (64 - (k + 1))) 4) (rowP F (nib z k)) := by
  rw [show 64 - k = (64 - (k + 1)) + 1 by omega]
  show addP _ (rowP F (nib z (63 - (64 - (k + 1))))) = _
  rw [show 63 - (64 - (k + 1)) = k by omega]
theorem tabmul_15 : rtab .any (opsOf Tryd.f18 15) = (true, [([], []), ([], []), ([1], [1]), ([2], [2]), ([3], [3]), ([], []), ([5], [5]), ([6], [6]), ([4, 7], [4, 7]), ([8], [8]), ([9], [9]), ([10], [10]), ([0, 11], [0, 11]), ([12, 12, 0, 1, 2, 3, 4, 5, 6, 7, 8, 9, 10, 11, 12], [12])]) := by kernel_rfl
theorem bitsmul_15 : zW [([], []), ([], []), ([1], [1]), ([2], [2]), ([3], [3]), ([], []), ([5], [5]), ([6], [6]), ([4, 7], [4, 7]), ([8], [8]), ([9], [9]), ([10], [10]), ([0, 11], [0, 11]), ([12, 12, 0, 1, 2, 3, 4, 5, 6, 7, 8, 9, 10, 11, 12], [12])] [0, 0, 2, 6, 14, 0, 32, 96, 254, 510, 1022, 2046, 4095, 8191] = true := by kernel_rfl
theorem tabmul_6 : rtab .any (opsOf Tryd.f18 6) = (true, [([], []), ([], []), ([1], [1]), ([2], [2]), ([3], [3]), ([], []), ([4, 5], [4, 5]), ([0, 0, 1, 2, 3, 4, 5, 6], [0]), ([7, 6, 6, 0, 1, 2, 3, 4, 5, 6], [6, 7])]) := by kernel_rfl
theorem bitsmul_6 : zW [([], []), ([], []), ([1], [1]), ([2], [2]), ([3], [3]), ([], []), ([4, 5], [4, 5]), ([0, 0, 1, 2, 3, 4, 5, 6], [0]), ([7, 6, 6, 0, 1, 2, 3, 4, 5, 6], [6, 7])] [0, 0, 2, 6, 14, 0, 62, 127, 255] = true := by kernel_rfl
theorem mul_pt (F z : Nat → Int) (w : World) (hT : TabD w) (hF : PL F) (hz : By z) : Calls Tryd.prog 18 #[.agg (FR .u64 20 F), .agg (FR .u8 32 z)] w fun e w' => e = .returned (.agg (FR .u64 20 (mulP F z))) ∧ Below w.heap.size w w' := by
  obtain ⟨M, hM⟩ : ∃ M, mulP F z = M := ⟨_, rfl⟩
  rw [hM]
  refine enter_ 48 Tryd.func18 rfl rfl (fun a0 hS => ?_)
  have HS0 : Sl a0 48 [(0, .agg (FR .u64 20 F)), (1, .agg (FR .u8 32 z))] := hS
  have HH0 : Held w w [] := Held.first w
  clear hS
  refine wp_seq ?_
  have hLo : LOk [(0, 2, .ptr 0 0), (1, 3, .ptr 1 0), (2, 4, .ptr 2 0)] := lok rfl rfl
  refine zJ (wE := w) (sz := 48) (n := 3) [0, 1, 3] [(2, .ptr 0 0), (3, .ptr 1 0), (4, .ptr 2 0)] _ [⟨0, some 0, none, .u64, 20, F, F, 42⟩, ⟨0, some 1, none, .u8, 32, z, z, 22⟩, ⟨0, some 2, none, .u64, 20, fun _ => 0, fun _ => 0, 42⟩] rfl (by rfl) HH0 rfl rfl hLo rfl HS0 (slL 0 (d := 0) rfl (slL 1 (d := 1) rfl (slL 2 (d := 2) rfl (trivial)))) ?_ ?_
  · show ∀ i ∈ [0, 1, 2], _
    refine zA (zK 0 0 .u64 20 42 none _ _ rfl rfl (fun _ _ _ _ => rfl) rfl hLo rfl rfl rfl rfl (by rfl) (fun b G w hb ho => exec_box rfl (zD rfl (HS0.get 0 rfl)) (by kernel_rfl))) ?_
    refine zA (zK 1 1 .u8 32 22 none _ _ rfl rfl (fun _ _ _ _ => rfl) rfl hLo rfl rfl rfl rfl (by rfl) (fun b G w hb ho => exec_box rfl (zD rfl (HS0.get 1 rfl)) (by kernel_rfl))) ?_
    refine zA (zK 2 2 .u64 20 42 none _ _ rfl rfl (fun _ _ _ _ => rfl) rfl hLo rfl rfl rfl rfl (by rfl) (fun b G w _ _ => by kernel_rfl)) ?_
    exact zE
  clear hLo
  intro G a1 w1 hS hH
  have HS1 : Sl a1 48 [(2, .pointer (some ⟨(G 0), 0, none⟩)), (3, .pointer (some ⟨(G 1), 0, none⟩)), (4, .pointer (some ⟨(G 2), 0, none⟩))] := hS
  have HH1 : Held w w1 [⟨(G 0), .u64, 20, F, 42⟩, ⟨(G 1), .u8, 32, z, 22⟩, ⟨(G 2), .u64, 20, fun _ => 0, 42⟩] := hH
  clear hS hH HS0 HH0
  generalize G 0 = g1_0 at HS1 HH1
  generalize G 1 = g1_1 at HS1 HH1
  generalize G 2 = g1_2 at HS1 HH1
  refine then_ ?_
  refine wp_seq ?_
  have hLo : LOk [(0, 5, .ptr 0 0)] := lok rfl rfl
  refine zJ (wE := w) (sz := 48) (n := 1) [0] [(2, .val (.pointer (some ⟨g1_0, 0, none⟩))), (3, .val (.pointer (some ⟨g1_1, 0, none⟩))), (4, .val (.pointer (some ⟨g1_2, 0, none⟩))), (5, .ptr 0 0)] _ [⟨g1_0, none, none, .u64, 20, F, F, 42⟩, ⟨g1_1, none, none, .u8, 32, z, z, 22⟩, ⟨g1_2, none, none, .u64, 20, fun _ => 0, fun _ => 0, 42⟩, ⟨0, some 0, none, .u64, 320, fun _ => 0, fun _ => 0, 68⟩] rfl (by rfl) HH1 rfl rfl hLo rfl HS1 (slS 0 rfl rfl (slS 1 rfl rfl (slS 2 rfl rfl (slL 0 (d := 0) rfl (trivial))))) ?_ ?_
  · show ∀ i ∈ [0], _
    refine zA (zK 0 3 .u64 320 68 none _ _ rfl rfl (fun _ _ _ _ => rfl) rfl hLo rfl rfl rfl rfl (by rfl) (fun b G w _ _ => by kernel_rfl)) ?_
    exact zE
  clear hLo
  intro G a2 w2 hS hH
  have HS2 : Sl a2 48 [(2, .pointer (some ⟨g1_0, 0, none⟩)), (3, .pointer (some ⟨g1_1, 0, none⟩)), (4, .pointer (some ⟨g1_2, 0, none⟩)), (5, .pointer (some ⟨(G 0), 0, none⟩))] := hS
  have HH2 : Held w w2 [⟨g1_0, .u64, 20, F, 42⟩, ⟨g1_1, .u8, 32, z, 22⟩, ⟨g1_2, .u64, 20, fun _ => 0, 42⟩, ⟨(G 0), .u64, 320, fun _ => 0, 68⟩] := hH
  clear hS hH HS1 HH1
  generalize G 0 = g2_0 at HS2 HH2
  refine then_ ?_
  refine wp_seq ?_
  have hLo : LOk [(0, 9, .val (.agg (FR .u64 20 (zeroP)))), (1, 10, .val (.pointer (some ⟨g2_0, 0, none⟩)))] := lok rfl rfl
  refine zJ (wE := w) (sz := 48) (n := 3) [0, 1, 3] [(2, .val (.pointer (some ⟨g1_0, 0, none⟩))), (3, .val (.pointer (some ⟨g1_1, 0, none⟩))), (4, .val (.pointer (some ⟨g1_2, 0, none⟩))), (5, .val (.pointer (some ⟨g2_0, 0, none⟩)))] _ [⟨g1_0, none, none, .u64, 20, F, F, 42⟩, ⟨g1_1, none, none, .u8, 32, z, z, 22⟩, ⟨g1_2, none, none, .u64, 20, fun _ => 0, fun _ => 0, 42⟩, ⟨g2_0, none, some 2, .u64, 320, fun _ => 0, updR (fun _ => 0) (0) 20 (zeroP), 68⟩] rfl (by rfl) HH2 rfl rfl hLo rfl HS2 (slS 0 rfl rfl (slS 1 rfl rfl (slS 2 rfl rfl (slS 3 rfl rfl (trivial))))) ?_ ?_
  · show ∀ i ∈ [0, 1, 2], _
    refine zA (zH 0 _ #[] rfl rfl rfl (fun _ _ _ _ => rfl) hLo rfl rfl Tryd.func37 rfl rfl (fun b G hb ho => args0 ) (fun w hw => zero_pt w)) ?_
    refine zA (zC 1 _ rfl rfl hLo rfl rfl (fun _ _ _ _ => rfl) (fun b G w hb ho => exec_indexAddr rfl (zD rfl (HS2.get 3 rfl)) (rfl) (by kernel_rfl))) ?_
    refine zA (st_put 3 _ rfl rfl rfl rfl (fun _ _ _ _ => rfl) rfl rfl rfl (by rfl) (fun b G w hb ho hr => exec_part hr (Nat.le_of_ble_eq_true rfl) infoPt rfl (zB hLo 1 rfl HS2.1 rfl (hb 1 (by rfl))) (zB hLo 0 rfl HS2.1 rfl (hb 0 (by rfl))))) ?_
    exact zE
  clear hLo
  intro G a3 w3 hS hH
  have HS3 : Sl a3 48 [(2, .pointer (some ⟨g1_0, 0, none⟩)), (3, .pointer (some ⟨g1_1, 0, none⟩)), (4, .pointer (some ⟨g1_2, 0, none⟩)), (5, .pointer (some ⟨g2_0, 0, none⟩))] := hS
  have HH3 : Held w w3 [⟨g1_0, .u64, 20, F, 42⟩, ⟨g1_1, .u8, 32, z, 22⟩, ⟨g1_2, .u64, 20, fun _ => 0, 42⟩, ⟨g2_0, .u64, 320, updR (fun _ => 0) (0) 20 (zeroP), 68⟩] := hH
  clear hS hH HS2 HH2
  refine then_ ?_
  rw [show updR (fun _ => 0) 0 20 zeroP = tabP F 1 by rw [tabP_zero F]; exact tabP_step F 0] at HH3
  refine wp_seq ?_
  refine wp_seq ?_
  have hLo : LOk [(0, 6, .val (.int .i64 1))] := lok rfl rfl
  refine zJ (wE := w) (sz := 48) (n := 1) [0] [(2, .val (.pointer (some ⟨g1_0, 0, none⟩))), (3, .val (.pointer (some ⟨g1_1, 0, none⟩))), (4, .val (.pointer (some ⟨g1_2, 0, none⟩))), (5, .val (.pointer (some ⟨g2_0, 0, none⟩))), (6, .val (.int .i64 1))] _ [⟨g1_0, none, none, .u64, 20, F, F, 42⟩, ⟨g1_1, none, none, .u8, 32, z, z, 22⟩, ⟨g1_2, none, none, .u64, 20, fun _ => 0, fun _ => 0, 42⟩, ⟨g2_0, none, none, .u64, 320, tabP F 1, tabP F 1, 68⟩] rfl (by rfl) HH3 rfl rfl hLo rfl HS3 (slS 0 rfl rfl (slS 1 rfl rfl (slS 2 rfl rfl (slS 3 rfl rfl (slL 0 (d := 0) rfl (trivial)))))) ?_ ?_
  · show ∀ i ∈ [0], _
    refine zA (zC 0 _ rfl rfl hLo rfl rfl (fun _ _ _ _ => rfl) (fun b G w hb ho => zF (.inr rfl) (rfl))) ?_
    exact zE
  clear hLo
  intro G a4 w4 hS hH
  have HS4 : Sl a4 48 [(2, .pointer (some ⟨g1_0, 0, none⟩)), (3, .pointer (some ⟨g1_1, 0, none⟩)), (4, .pointer (some ⟨g1_2, 0, none⟩)), (5, .pointer (some ⟨g2_0, 0, none⟩)), (6, .int .i64 1)] := hS
  have HH4 : Held w w4 [⟨g1_0, .u64, 20, F, 42⟩, ⟨g1_1, .u8, 32, z, 22⟩, ⟨g1_2, .u64, 20, fun _ => 0, 42⟩, ⟨g2_0, .u64, 320, tabP F 1, 68⟩] := hH
  clear hS hH HS3 HH3
  refine then_ ?_
  refine wp_block ?_
  refine wp_loop (fun a w' => ∃ i : Nat, 1 ≤ i ∧ i ≤ 16 ∧ Sl a 48 [(2, .pointer (some ⟨g1_0, 0, none⟩)), (3, .pointer (some ⟨g1_1, 0, none⟩)), (4, .pointer (some ⟨g1_2, 0, none⟩)), (5, .pointer (some ⟨g2_0, 0, none⟩)), (6, .int .i64 ((i : Nat) : Int))] ∧ Held w w' [⟨g1_0, .u64, 20, F, 42⟩, ⟨g1_1, .u8, 32, z, 22⟩, ⟨g1_2, .u64, 20, fun _ => 0, 42⟩, ⟨g2_0, .u64, 320, tabP F i, 68⟩]) (fun a _ => 16 - (intOf (a.eval (.tmp 6))).toNat) ⟨1, by omega, by omega, HS4, HH4⟩ ?_
  clear HS4 HH4
  rintro a w1 ⟨i, h1, hi, HSl, HHl⟩
  have hm : (intOf (a.eval (.tmp 6))).toNat = i := by rw [HSl.get 4 rfl]; exact Int.toNat_natCast i
  rw [hm]
  clear hm
  obtain ⟨k, rfl⟩ : ∃ k, i = k + 1 := ⟨i - 1, by omega⟩
  obtain ⟨r, hr⟩ : ∃ r, decide (((k + 1 : Nat) : Int) < 16) = r := ⟨_, rfl⟩
  refine wp_seq ?_
  refine wp_seq ?_
  have hLo : LOk [(0, 11, .val (.int .i64 ((k + 1 : Nat) : Int))), (1, 12, .val (.bool r))] := lok rfl rfl
  refine zJ (wE := w) (sz := 48) (n := 2) [0, 1] [(2, .val (.pointer (some ⟨g1_0, 0, none⟩))), (3, .val (.pointer (some ⟨g1_1, 0, none⟩))), (4, .val (.pointer (some ⟨g1_2, 0, none⟩))), (5, .val (.pointer (some ⟨g2_0, 0, none⟩))), (6, .val (.int .i64 ((k + 1 : Nat) : Int))), (12, .val (.bool r))] _ [⟨g1_0, none, none, .u64, 20, F, F, 42⟩, ⟨g1_1, none, none, .u8, 32, z, z, 22⟩, ⟨g1_2, none, none, .u64, 20, fun _ => 0, fun _ => 0, 42⟩, ⟨g2_0, none, none, .u64, 320, tabP F (k + 1), tabP F (k + 1), 68⟩] rfl (by rfl) HHl rfl rfl hLo rfl HSl (slS 0 rfl rfl (slS 1 rfl rfl (slS 2 rfl rfl (slS 3 rfl rfl (slS 4 rfl rfl (slL 1 (d := 1) rfl (trivial))))))) ?_ ?_
  · show ∀ i ∈ [0, 1], _
    refine zA (zC 0 _ rfl rfl hLo rfl rfl (fun _ _ _ _ => rfl) (fun b G w hb ho => zF (.inl rfl) (zD rfl (HSl.get 4 rfl)))) ?_
    refine zA (zC 1 _ rfl rfl hLo rfl rfl (fun _ _ _ _ => rfl) (fun b G w hb ho => zV rfl (zB hLo 0 rfl HSl.1 rfl (hb 0 (by rfl))) (rfl) (lss_run hr _ _ _))) ?_
    exact zE
  clear hLo
  intro G a5 w5 hS hH
  have HS5 : Sl a5 48 [(2, .pointer (some ⟨g1_0, 0, none⟩)), (3, .pointer (some ⟨g1_1, 0, none⟩)), (4, .pointer (some ⟨g1_2, 0, none⟩)), (5, .pointer (some ⟨g2_0, 0, none⟩)), (6, .int .i64 ((k + 1 : Nat) : Int)), (12, .bool r)] := hS
  have HH5 : Held w w5 [⟨g1_0, .u64, 20, F, 42⟩, ⟨g1_1, .u8, 32, z, 22⟩, ⟨g1_2, .u64, 20, fun _ => 0, 42⟩, ⟨g2_0, .u64, 320, tabP F (k + 1), 68⟩] := hH
  clear hS hH HSl HHl
  refine then_ ?_
  cases r
  · skip
    refine wp_cond_false (HS5.get 5 rfl) ?_
    refine wp_exit ?_
    repeat refine then_exit ?_
    refine inBlock_exit ?_
    refine then_ ?_
    obtain rfl : k = 15 := by have := of_decide_eq_false hr; omega
    clear hr hi h1
    refine wp_seq ?_
    have hLo : LOk [(0, 23, .val (.agg (FR .u64 20 (zeroP)))), (1, 7, .ptr 1 0)] := lok rfl rfl
    refine zJ (wE := w) (sz := 48) (n := 3) [0, 1, 3] [(2, .val (.pointer (some ⟨g1_0, 0, none⟩))), (3, .val (.pointer (some ⟨g1_1, 0, none⟩))), (4, .val (.pointer (some ⟨g1_2, 0, none⟩))), (5, .val (.pointer (some ⟨g2_0, 0, none⟩))), (7, .ptr 1 0)] _ [⟨g1_0, none, none, .u64, 20, F, F, 42⟩, ⟨g1_1, none, none, .u8, 32, z, z, 22⟩, ⟨g1_2, none, none, .u64, 20, fun _ => 0, fun _ => 0, 42⟩, ⟨g2_0, none, none, .u64, 320, tabP F (15 + 1), tabP F (15 + 1), 68⟩, ⟨0, some 1, some 2, .u64, 20, fun _ => 0, zeroP, 42⟩] rfl (by rfl) HH5 rfl rfl hLo rfl HS5 (slS 0 rfl rfl (slS 1 rfl rfl (slS 2 rfl rfl (slS 3 rfl rfl (slL 1 (d := 1) rfl (trivial)))))) ?_ ?_
    · show ∀ i ∈ [0, 1, 2], _
      refine zA (zH 0 _ #[] rfl rfl rfl (fun _ _ _ _ => rfl) hLo rfl rfl Tryd.func37 rfl rfl (fun b G hb ho => args0 ) (fun w hw => zero_pt w)) ?_
      refine zA (zK 1 4 .u64 20 42 (some 2) _ _ rfl rfl (fun _ _ _ _ => rfl) rfl hLo rfl rfl rfl rfl (by rfl) (fun b G w _ _ => by kernel_rfl)) ?_
      refine zA (zI 4 _ rfl rfl rfl rfl rfl (fun _ _ _ _ => rfl) rfl rfl rfl (by rfl) infoPt (fun b G hb ho => zB hLo 1 rfl HS5.1 rfl (hb 1 (by rfl))) (fun b G hb ho => zB hLo 0 rfl HS5.1 rfl (hb 0 (by rfl)))) ?_
      exact zE
    clear hLo
    intro G a6 w6 hS hH
    have HS6 : Sl a6 48 [(2, .pointer (some ⟨g1_0, 0, none⟩)), (3, .pointer (some ⟨g1_1, 0, none⟩)), (4, .pointer (some ⟨g1_2, 0, none⟩)), (5, .pointer (some ⟨g2_0, 0, none⟩)), (7, .pointer (some ⟨(G 1), 0, none⟩))] := hS
    have HH6 : Held w w6 [⟨g1_0, .u64, 20, F, 42⟩, ⟨g1_1, .u8, 32, z, 22⟩, ⟨g1_2, .u64, 20, fun _ => 0, 42⟩, ⟨g2_0, .u64, 320, tabP F (15 + 1), 68⟩, ⟨(G 1), .u64, 20, zeroP, 42⟩] := hH
    clear hS hH HS5 HH5
    generalize G 1 = g6_1 at HS6 HH6
    refine then_ ?_
    refine wp_seq ?_
    refine wp_seq ?_
    have hLo : LOk [(0, 8, .val (.int .i64 63))] := lok rfl rfl
    refine zJ (wE := w) (sz := 48) (n := 1) [0] [(2, .val (.pointer (some ⟨g1_0, 0, none⟩))), (3, .val (.pointer (some ⟨g1_1, 0, none⟩))), (4, .val (.pointer (some ⟨g1_2, 0, none⟩))), (5, .val (.pointer (some ⟨g2_0, 0, none⟩))), (7, .val (.pointer (some ⟨g6_1, 0, none⟩))), (8, .val (.int .i64 63))] _ [⟨g1_0, none, none, .u64, 20, F, F, 42⟩, ⟨g1_1, none, none, .u8, 32, z, z, 22⟩, ⟨g1_2, none, none, .u64, 20, fun _ => 0, fun _ => 0, 42⟩, ⟨g2_0, none, none, .u64, 320, tabP F (15 + 1), tabP F (15 + 1), 68⟩, ⟨g6_1, none, none, .u64, 20, zeroP, zeroP, 42⟩] rfl (by rfl) HH6 rfl rfl hLo rfl HS6 (slS 0 rfl rfl (slS 1 rfl rfl (slS 2 rfl rfl (slS 3 rfl rfl (slS 4 rfl rfl (slL 0 (d := 0) rfl (trivial))))))) ?_ ?_
    · show ∀ i ∈ [0], _
      refine zA (zC 0 _ rfl rfl hLo rfl rfl (fun _ _ _ _ => rfl) (fun b G w hb ho => zF (.inr rfl) (rfl))) ?_
      exact zE
    clear hLo
    intro G a7 w7 hS hH
    have HS7 : Sl a7 48 [(2, .pointer (some ⟨g1_0, 0, none⟩)), (3, .pointer (some ⟨g1_1, 0, none⟩)), (4, .pointer (some ⟨g1_2, 0, none⟩)), (5, .pointer (some ⟨g2_0, 0, none⟩)), (7, .pointer (some ⟨g6_1, 0, none⟩)), (8, .int .i64 63)] := hS
    have HH7 : Held w w7 [⟨g1_0, .u64, 20, F, 42⟩, ⟨g1_1, .u8, 32, z, 22⟩, ⟨g1_2, .u64, 20, fun _ => 0, 42⟩, ⟨g2_0, .u64, 320, tabP F (15 + 1), 68⟩, ⟨g6_1, .u64, 20, zeroP, 42⟩] := hH
    clear hS hH HS6 HH6
    refine then_ ?_
    refine wp_block ?_
    refine wp_loop (fun a w' => ∃ i : Nat, i ≤ 64 ∧ Sl a 48 [(2, .pointer (some ⟨g1_0, 0, none⟩)), (3, .pointer (some ⟨g1_1, 0, none⟩)), (4, .pointer (some ⟨g1_2, 0, none⟩)), (5, .pointer (some ⟨g2_0, 0, none⟩)), (7, .pointer (some ⟨g6_1, 0, none⟩)), (8, .int .i64 (((i : Nat) : Int) - 1))] ∧ Held w w' [⟨g1_0, .u64, 20, F, 42⟩, ⟨g1_1, .u8, 32, z, 22⟩, ⟨g1_2, .u64, 20, fun _ => 0, 42⟩, ⟨g2_0, .u64, 320, tabP F (15 + 1), 68⟩, ⟨g6_1, .u64, 20, mulS F z (64 - i), 42⟩]) (fun a _ => (intOf (a.eval (.tmp 8)) + 1).toNat) ⟨64, by omega, HS7, HH7⟩ ?_
    clear HS7 HH7
    rintro a w1 ⟨i, hi, HSm, HHm⟩
    have hm : (intOf (a.eval (.tmp 8)) + 1).toNat = i := by rw [HSm.get 5 rfl]; show ((i : Int) - 1 + 1).toNat = i; omega
    rw [hm]
    clear hm
    rcases Nat.eq_zero_or_pos i with h0 | h0
    · subst h0
      refine wp_seq ?_
      refine wp_seq ?_
      have hLo : LOk [(0, 24, .val (.int .i64 (((0 : Nat) : Int) - 1))), (1, 25, .val (.bool false))] := lok rfl rfl
      refine zJ (wE := w) (sz := 48) (n := 2) [0, 1] [(4, .val (.pointer (some ⟨g1_2, 0, none⟩))), (7, .val (.pointer (some ⟨g6_1, 0, none⟩))), (25, .val (.bool false))] _ [⟨g1_0, none, none, .u64, 20, F, F, 42⟩, ⟨g1_1, none, none, .u8, 32, z, z, 22⟩, ⟨g1_2, none, none, .u64, 20, fun _ => 0, fun _ => 0, 42⟩, ⟨g2_0, none, none, .u64, 320, tabP F (15 + 1), tabP F (15 + 1), 68⟩, ⟨g6_1, none, none, .u64, 20, mulS F z (64 - 0), mulS F z (64 - 0), 42⟩] rfl (by rfl) HHm rfl rfl hLo rfl HSm (slS 2 rfl rfl (slS 4 rfl rfl (slL 1 (d := 1) rfl (trivial)))) ?_ ?_
      · show ∀ i ∈ [0, 1], _
        refine zA (zC 0 _ rfl rfl hLo rfl rfl (fun _ _ _ _ => rfl) (fun b G w hb ho => zF (.inl rfl) (zD rfl (HSm.get 5 rfl)))) ?_
        refine zA (zC 1 _ rfl rfl hLo rfl rfl (fun _ _ _ _ => rfl) (fun b G w hb ho => zV rfl (zB hLo 0 rfl HSm.1 rfl (hb 0 (by rfl))) (rfl) (geq_run (by decide) _ _ _))) ?_
        exact zE
      clear hLo
      intro G a8 w8 hS hH
      have HS8 : Sl a8 48 [(4, .pointer (some ⟨g1_2, 0, none⟩)), (7, .pointer (some ⟨g6_1, 0, none⟩)), (25, .bool false)] := hS
      have HH8 : Held w w8 [⟨g1_0, .u64, 20, F, 42⟩, ⟨g1_1, .u8, 32, z, 22⟩, ⟨g1_2, .u64, 20, fun _ => 0, 42⟩, ⟨g2_0, .u64, 320, tabP F (15 + 1), 68⟩, ⟨g6_1, .u64, 20, mulS F z (64 - 0), 42⟩] := hH
      clear hS hH HSm HHm
      refine then_ ?_
      refine wp_cond_false (HS8.get 2 rfl) ?_
      refine wp_exit ?_
      repeat refine then_exit ?_
      refine inBlock_exit ?_
      refine then_ ?_
      have hMM : mulS F z (64 - 0) = M := hM
      rw [hMM] at HH8
      refine wp_seq ?_
      have hLo : LOk [(0, 47, .val (.agg (FR .u64 20 (M))))] := lok rfl rfl
      refine zJ (wE := w) (sz := 48) (n := 2) [0, 1] [(4, .val (.pointer (some ⟨g1_2, 0, none⟩)))] _ [⟨g1_0, none, none, .u64, 20, F, F, 42⟩, ⟨g1_1, none, none, .u8, 32, z, z, 22⟩, ⟨g1_2, none, some 1, .u64, 20, fun _ => 0, M, 42⟩, ⟨g2_0, none, none, .u64, 320, tabP F (15 + 1), tabP F (15 + 1), 68⟩, ⟨g6_1, none, none, .u64, 20, M, M, 42⟩] rfl (by rfl) HH8 rfl rfl hLo rfl HS8 (slS 0 rfl rfl (trivial)) ?_ ?_
      · show ∀ i ∈ [0, 1], _
        refine zA (zG 0 4 _ rfl rfl rfl rfl (fun _ _ _ _ => rfl) hLo rfl rfl rfl (by rfl) Tryd.underlying42 infoPt rfl (fun b G hb ho => zD rfl (HS8.get 1 rfl))) ?_
        refine zA (zI 2 _ rfl rfl rfl rfl rfl (fun _ _ _ _ => rfl) rfl rfl rfl (by rfl) infoPt (fun b G hb ho => zD rfl (HS8.get 0 rfl)) (fun b G hb ho => zB hLo 0 rfl HS8.1 rfl (hb 0 (by rfl)))) ?_
        exact zE
      clear hLo
      intro G a9 w9 hS hH
      have HS9 : Sl a9 48 [(4, .pointer (some ⟨g1_2, 0, none⟩))] := hS
      have HH9 : Held w w9 [⟨g1_0, .u64, 20, F, 42⟩, ⟨g1_1, .u8, 32, z, 22⟩, ⟨g1_2, .u64, 20, M, 42⟩, ⟨g2_0, .u64, 320, tabP F (15 + 1), 68⟩, ⟨g6_1, .u64, 20, M, 42⟩] := hH
      clear hS hH HS8 HH8
      refine then_ ?_
      refine wp_ret ?_
      repeat refine yC ?_
      exact b_row rfl HS9.2.1 (HS9.get 0 rfl) (HH9.row 2 rfl) Tryd.underlying42 rfl infoPt ⟨rfl, HH9.1⟩
    · obtain ⟨k, rfl⟩ : ∃ k, i = k + 1 := ⟨i - 1, by omega⟩
      have e1 : ((k + 1 : Nat) : Int) - 1 = (k : Int) := by omega
      rw [e1] at HSm
      have hst := mulS_step (F := F) (z := z) (k := k) (by omega)
      have hQ := mulS_PL (F := F) (z := z) hF (64 - (k + 1))
      generalize mulS F z (64 - (k + 1)) = q at HHm hst hQ
      have hk32 : k / 2 < 32 := by omega
      have hzk := hz (k / 2) hk32
      have hnb : Go.bits .and .u8 (z (k / 2) / 2 ^ (k % 2 * 4)) 15 = ((nib z k : Nat) : Int) := by rw [and15 _ (by rcases Nat.mod_two_eq_zero_or_one k with h | h <;> rw [h] <;> omega)]; unfold nib; omega
      refine wp_seq ?_
      refine wp_seq ?_
      have hLo : LOk [(0, 24, .val (.int .i64 ((k : Nat) : Int))), (1, 25, .val (.bool true))] := lok rfl rfl
      refine zJ (wE := w) (sz := 48) (n := 2) [0, 1] [(2, .val (.pointer (some ⟨g1_0, 0, none⟩))), (3, .val (.pointer (some ⟨g1_1, 0, none⟩))), (4, .val (.pointer (some ⟨g1_2, 0, none⟩))), (5, .val (.pointer (some ⟨g2_0, 0, none⟩))), (7, .val (.pointer (some ⟨g6_1, 0, none⟩))), (8, .val (.int .i64 ((k : Nat) : Int))), (25, .val (.bool true))] _ [⟨g1_0, none, none, .u64, 20, F, F, 42⟩, ⟨g1_1, none, none, .u8, 32, z, z, 22⟩, ⟨g1_2, none, none, .u64, 20, fun _ => 0, fun _ => 0, 42⟩, ⟨g2_0, none, none, .u64, 320, tabP F (15 + 1), tabP F (15 + 1), 68⟩, ⟨g6_1, none, none, .u64, 20, q, q, 42⟩] rfl (by rfl) HHm rfl rfl hLo rfl HSm (slS 0 rfl rfl (slS 1 rfl rfl (slS 2 rfl rfl (slS 3 rfl rfl (slS 4 rfl rfl (slS 5 rfl rfl (slL 1 (d := 1) rfl (trivial)))))))) ?_ ?_
      · show ∀ i ∈ [0, 1], _
        refine zA (zC 0 _ rfl rfl hLo rfl rfl (fun _ _ _ _ => rfl) (fun b G w hb ho => zF (.inl rfl) (zD rfl (HSm.get 5 rfl)))) ?_
        refine zA (zC 1 _ rfl rfl hLo rfl rfl (fun _ _ _ _ => rfl) (fun b G w hb ho => zV rfl (zB hLo 0 rfl HSm.1 rfl (hb 0 (by rfl))) (rfl) (geq_run (decide_eq_true (Int.natCast_nonneg k)) _ _ _))) ?_
        exact zE
      clear hLo
      intro G a10 w10 hS hH
      have HS10 : Sl a10 48 [(2, .pointer (some ⟨g1_0, 0, none⟩)), (3, .pointer (some ⟨g1_1, 0, none⟩)), (4, .pointer (some ⟨g1_2, 0, none⟩)), (5, .pointer (some ⟨g2_0, 0, none⟩)), (7, .pointer (some ⟨g6_1, 0, none⟩)), (8, .int .i64 ((k : Nat) : Int)), (25, .bool true)] := hS
      have HH10 : Held w w10 [⟨g1_0, .u64, 20, F, 42⟩, ⟨g1_1, .u8, 32, z, 22⟩, ⟨g1_2, .u64, 20, fun _ => 0, 42⟩, ⟨g2_0, .u64, 320, tabP F (15 + 1), 68⟩, ⟨g6_1, .u64, 20, q, 42⟩] := hH
      clear hS hH HSm HHm
      refine then_ ?_
      refine wp_cond_true (HS10.get 6 rfl) ?_
      refine wp_skip ?_
      refine then_ ?_
      refine wp_seq ?_
      refine wp_block ?_
      refine wp_seq ?_
      refine wp_seq ?_
      have hLo : LOk [(0, 28, .val (.int .i64 0))] := lok rfl rfl
      refine zJ (wE := w) (sz := 48) (n := 1) [0] [(2, .val (.pointer (some ⟨g1_0, 0, none⟩))), (3, .val (.pointer (some ⟨g1_1, 0, none⟩))), (4, .val (.pointer (some ⟨g1_2, 0, none⟩))), (5, .val (.pointer (some ⟨g2_0, 0, none⟩))), (7, .val (.pointer (some ⟨g6_1, 0, none⟩))), (8, .val (.int .i64 ((k : Nat) : Int))), (28, .val (.int .i64 0))] _ [⟨g1_0, none, none, .u64, 20, F, F, 42⟩, ⟨g1_1, none, none, .u8, 32, z, z, 22⟩, ⟨g1_2, none, none, .u64, 20, fun _ => 0, fun _ => 0, 42⟩, ⟨g2_0, none, none, .u64, 320, tabP F (15 + 1), tabP F (15 + 1), 68⟩, ⟨g6_1, none, none, .u64, 20, q, q, 42⟩] rfl (by rfl) HH10 rfl rfl hLo rfl HS10 (slS 0 rfl rfl (slS 1 rfl rfl (slS 2 rfl rfl (slS 3 rfl rfl (slS 4 rfl rfl (slS 5 rfl rfl (slL 0 (d := 0) rfl (trivial)))))))) ?_ ?_
      · show ∀ i ∈ [0], _
        refine zA (zC 0 _ rfl rfl hLo rfl rfl (fun _ _ _ _ => rfl) (fun b G w hb ho => zF (.inl rfl) (rfl))) ?_
        exact zE
      clear hLo
      intro G a11 w11 hS hH
      have HS11 : Sl a11 48 [(2, .pointer (some ⟨g1_0, 0, none⟩)), (3, .pointer (some ⟨g1_1, 0, none⟩)), (4, .pointer (some ⟨g1_2, 0, none⟩)), (5, .pointer (some ⟨g2_0, 0, none⟩)), (7, .pointer (some ⟨g6_1, 0, none⟩)), (8, .int .i64 ((k : Nat) : Int)), (28, .int .i64 0)] := hS
      have HH11 : Held w w11 [⟨g1_0, .u64, 20, F, 42⟩, ⟨g1_1, .u8, 32, z, 22⟩, ⟨g1_2, .u64, 20, fun _ => 0, 42⟩, ⟨g2_0, .u64, 320, tabP F (15 + 1), 68⟩, ⟨g6_1, .u64, 20, q, 42⟩] := hH
      clear hS hH HS10 HH10
      refine then_ ?_
      refine wp_block ?_
      refine wp_loop (fun a w' => ∃ j : Nat, j ≤ 4 ∧ Sl a 48 [(2, .pointer (some ⟨g1_0, 0, none⟩)), (3, .pointer (some ⟨g1_1, 0, none⟩)), (4, .pointer (some ⟨g1_2, 0, none⟩)), (5, .pointer (some ⟨g2_0, 0, none⟩)), (7, .pointer (some ⟨g6_1, 0, none⟩)), (8, .int .i64 ((k : Nat) : Int)), (28, .int .i64 ((j : Nat) : Int))] ∧ Held w w' [⟨g1_0, .u64, 20, F, 42⟩, ⟨g1_1, .u8, 32, z, 22⟩, ⟨g1_2, .u64, 20, fun _ => 0, 42⟩, ⟨g2_0, .u64, 320, tabP F (15 + 1), 68⟩, ⟨g6_1, .u64, 20, dblN q j, 42⟩]) (fun a _ => 4 - (intOf (a.eval (.tmp 28))).toNat) ⟨0, by omega, HS11, HH11⟩ ?_
      clear HS11 HH11
      rintro a w2 ⟨j, hj, HSn, HHn⟩
      have hm : (intOf (a.eval (.tmp 28))).toNat = j := by rw [HSn.get 6 rfl]; exact Int.toNat_natCast j
      rw [hm]
      clear hm
      obtain ⟨r, hr⟩ : ∃ r, decide ((j : Int) < 4) = r := ⟨_, rfl⟩
      refine wp_seq ?_
      have hLo : LOk [(0, 29, .val (.bool r))] := lok rfl rfl
      refine zJ (wE := w) (sz := 48) (n := 1) [0] [(2, .val (.pointer (some ⟨g1_0, 0, none⟩))), (3, .val (.pointer (some ⟨g1_1, 0, none⟩))), (4, .val (.pointer (some ⟨g1_2, 0, none⟩))), (5, .val (.pointer (some ⟨g2_0, 0, none⟩))), (7, .val (.pointer (some ⟨g6_1, 0, none⟩))), (8, .val (.int .i64 ((k : Nat) : Int))), (28, .val (.int .i64 ((j : Nat) : Int))), (29, .val (.bool r))] _ [⟨g1_0, none, none, .u64, 20, F, F, 42⟩, ⟨g1_1, none, none, .u8, 32, z, z, 22⟩, ⟨g1_2, none, none, .u64, 20, fun _ => 0, fun _ => 0, 42⟩, ⟨g2_0, none, none, .u64, 320, tabP F (15 + 1), tabP F (15 + 1), 68⟩, ⟨g6_1, none, none, .u64, 20, dblN q j, dblN q j, 42⟩] rfl (by rfl) HHn rfl rfl hLo rfl HSn (slS 0 rfl rfl (slS 1 rfl rfl (slS 2 rfl rfl (slS 3 rfl rfl (slS 4 rfl rfl (slS 5 rfl rfl (slS 6 rfl rfl (slL 0 (d := 0) rfl (trivial))))))))) ?_ ?_
      · show ∀ i ∈ [0], _
        refine zA (zC 0 _ rfl rfl hLo rfl rfl (fun _ _ _ _ => rfl) (fun b G w hb ho => zV rfl (zD rfl (HSn.get 6 rfl)) (rfl) (lss_run hr _ _ _))) ?_
        exact zE
      clear hLo
      intro G a12 w12 hS hH
      have HS12 : Sl a12 48 [(2, .pointer (some ⟨g1_0, 0, none⟩)), (3, .pointer (some ⟨g1_1, 0, none⟩)), (4, .pointer (some ⟨g1_2, 0, none⟩)), (5, .pointer (some ⟨g2_0, 0, none⟩)), (7, .pointer (some ⟨g6_1, 0, none⟩)), (8, .int .i64 ((k : Nat) : Int)), (28, .int .i64 ((j : Nat) : Int)), (29, .bool r)] := hS
      have HH12 : Held w w12 [⟨g1_0, .u64, 20, F, 42⟩, ⟨g1_1, .u8, 32, z, 22⟩, ⟨g1_2, .u64, 20, fun _ => 0, 42⟩, ⟨g2_0, .u64, 320, tabP F (15 + 1), 68⟩, ⟨g6_1, .u64, 20, dblN q j, 42⟩] := hH
      clear hS hH HSn HHn
      refine then_ ?_
      cases r
      · skip
        refine wp_seq ?_
        refine wp_cond_false (HS12.get 7 rfl) ?_
        refine wp_exit ?_
        repeat refine then_exit ?_
        refine inBlock_exit ?_
        refine then_ ?_
        obtain rfl : j = 4 := by have := of_decide_eq_false hr; omega
        have hLo : LOk [(0, 34, .val (.agg (FR .u64 20 (dblN q 4)))), (1, 35, .val (.int .i64 ((k : Nat) : Int))), (2, 36, .val (.int .i64 ((k / 2 : Nat) : Int))), (3, 37, .val (.pointer (some ⟨g1_1, k / 2, none⟩))), (4, 38, .val (.int .u8 ((z) (k / 2)))), (5, 39, .val (.int .i64 ((k : Nat) : Int))), (6, 40, .val (.int .i64 ((k % 2 : Nat) : Int))), (7, 41, .val (.int .i64 ((k % 2 * 4 : Nat) : Int))), (8, 42, .val (.int .u8 (z (k / 2) / 2 ^ (k % 2 * 4)))), (9, 43, .val (.int .u8 ((nib z k : Nat) : Int))), (10, 44, .val (.pointer (some ⟨g2_0, nib z k * 20, none⟩))), (11, 45, .val (.agg (FR .u64 20 (rowP F (nib z k))))), (12, 46, .val (.agg (FR .u64 20 (addP (dblN q 4) (rowP F (nib z k))))))] := lok rfl rfl
        refine yK (wE := w) (sz := 48) (n := 14) (B := [0, 0, 2, 6, 14, 0, 32, 96, 254, 510, 1022, 2046, 4095, 8191]) [0, 1, 2, 3, 4, 5, 6, 7, 8, 9, 10, 11, 12, 13] [(2, .val (.pointer (some ⟨g1_0, 0, none⟩))), (3, .val (.pointer (some ⟨g1_1, 0, none⟩))), (4, .val (.pointer (some ⟨g1_2, 0, none⟩))), (5, .val (.pointer (some ⟨g2_0, 0, none⟩))), (7, .val (.pointer (some ⟨g6_1, 0, none⟩))), (8, .val (.int .i64 ((k : Nat) : Int)))] _ [⟨g1_0, none, none, .u64, 20, F, F, 42⟩, ⟨g1_1, none, none, .u8, 32, z, z, 22⟩, ⟨g1_2, none, none, .u64, 20, fun _ => 0, fun _ => 0, 42⟩, ⟨g2_0, none, none, .u64, 320, tabP F (15 + 1), tabP F (15 + 1), 68⟩, ⟨g6_1, none, some 13, .u64, 20, dblN q 4, addP (dblN q 4) (rowP F (nib z k)), 42⟩] (by rfl) rfl tabmul_15 bitsmul_15 (by kernel_rfl) (by kernel_rfl) HH12 rfl rfl hLo rfl HS12 (slS 0 rfl rfl (slS 1 rfl rfl (slS 2 rfl rfl (slS 3 rfl rfl (slS 4 rfl rfl (slS 5 rfl rfl (trivial))))))) ?_ ?_
        · show ∀ i ∈ [0, 1, 2, 3, 4, 5, 6, 7, 8, 9, 10, 11, 12, 13], _
          refine zA (zG 0 4 _ rfl rfl rfl rfl (fun _ _ _ _ => rfl) hLo rfl rfl rfl (by rfl) Tryd.underlying42 infoPt rfl (fun b G hb ho => zD rfl (HS12.get 4 rfl))) ?_
          refine zA (zC 1 _ rfl rfl hLo rfl rfl (fun _ _ _ _ => rfl) (fun b G w hb ho => zF (.inl rfl) (zD rfl (HS12.get 5 rfl)))) ?_
          refine zA (zC 2 _ rfl rfl hLo rfl rfl (fun _ _ _ _ => rfl) (fun b G w hb ho => zV rfl (zB hLo 1 rfl HS12.1 rfl (hb 1 (by rfl))) (rfl) (quo_run (c := 2) (by decide) (by omega) _ _ _))) ?_
          refine zA (zC 3 _ rfl rfl hLo rfl rfl (fun _ _ _ _ => rfl) (fun b G w hb ho => exec_indexAddr rfl (zD rfl (HS12.get 1 rfl)) (zB hLo 2 rfl HS12.1 rfl (hb 2 (by rfl))) (index_run hk32 _ _))) ?_
          refine zA (st_read 4 1 _ _ rfl rfl rfl hLo rfl rfl (fun _ _ _ _ => rfl) (by rfl) (by rfl) (fun b G w hb ho hr => exec_cell hr hk32 Tryd.underlying5 rfl rfl (zB hLo 3 rfl HS12.1 rfl (hb 3 (by rfl))))) ?_
          refine zA (zC 5 _ rfl rfl hLo rfl rfl (fun _ _ _ _ => rfl) (fun b G w hb ho => zF (.inl rfl) (zD rfl (HS12.get 5 rfl)))) ?_
          refine zA (zC 6 _ rfl rfl hLo rfl rfl (fun _ _ _ _ => rfl) (fun b G w hb ho => zV rfl (zB hLo 5 rfl HS12.1 rfl (hb 5 (by rfl))) (rfl) (rem_run (c := 2) (by decide) _ _ _))) ?_
          refine zA (zC 7 _ rfl rfl hLo rfl rfl (fun _ _ _ _ => rfl) (fun b G w hb ho => zV rfl (zB hLo 6 rfl HS12.1 rfl (hb 6 (by rfl))) (rfl) (mul4_run (by omega) _ _ _))) ?_
          refine zA (zC 8 _ rfl rfl hLo rfl rfl (fun _ _ _ _ => rfl) (fun b G w hb ho => zV rfl (zB hLo 4 rfl HS12.1 rfl (hb 4 (by rfl))) (zB hLo 7 rfl HS12.1 rfl (hb 7 (by rfl))) (shrI_run (by omega) _ _ _))) ?_
          refine zA (zC 9 _ rfl rfl hLo rfl rfl (fun _ _ _ _ => rfl) (fun b G w hb ho => zV rfl (zB hLo 8 rfl HS12.1 rfl (hb 8 (by rfl))) (rfl) (and15_run hnb _ _ _))) ?_
          refine zA (zC 10 _ rfl rfl hLo rfl rfl (fun _ _ _ _ => rfl) (fun b G w hb ho => exec_indexAddr rfl (zD rfl (HS12.get 3 rfl)) (zB hLo 9 rfl HS12.1 rfl (hb 9 (by rfl))) (index74_run (nib_lt z k) _ _))) ?_
          refine zA (st_read 11 3 _ _ rfl rfl rfl hLo rfl rfl (fun _ _ _ _ => rfl) (by rfl) (by rfl) (fun b G w hb ho hr => exec_load_at (f := rowP F (nib z k)) (fun j hj => by rw [add_at]; exact (hr.cell ((nib z k) * 20 + j) (by have := nib_lt z k; show (nib z k) * 20 + j < 320; omega)).trans (congrArg (fun y => some (Value.int .u64 y)) (tabP_at (nib_lt z k) j hj))) Tryd.underlying42 infoPt rfl rfl (zB hLo 10 rfl HS12.1 rfl (hb 10 (by rfl))))) ?_
          refine zA (zH 12 _ #[.agg (FR .u64 20 (dblN q 4)), .agg (FR .u64 20 (rowP F (nib z k)))] rfl rfl rfl (fun _ _ _ _ => rfl) hLo rfl rfl Tryd.func26 rfl rfl (fun b G hb ho => zU (zB hLo 0 rfl HS12.1 rfl (hb 0 (by rfl))) (zB hLo 11 rfl HS12.1 rfl (hb 11 (by rfl)))) (fun w hw => add_pt _ _ w (hT.below hw hT.lt) (dblN_PL hQ 4) (rowP_PL hF (nib z k)))) ?_
          refine zA (zI 4 _ rfl rfl rfl rfl rfl (fun _ _ _ _ => rfl) rfl rfl rfl (by rfl) infoPt (fun b G hb ho => zD rfl (HS12.get 4 rfl)) (fun b G hb ho => zB hLo 12 rfl HS12.1 rfl (hb 12 (by rfl)))) ?_
          exact zE
        clear hLo
        intro G a13 w13 hS hH
        have HS13 : Sl a13 48 [(2, .pointer (some ⟨g1_0, 0, none⟩)), (3, .pointer (some ⟨g1_1, 0, none⟩)), (4, .pointer (some ⟨g1_2, 0, none⟩)), (5, .pointer (some ⟨g2_0, 0, none⟩)), (7, .pointer (some ⟨g6_1, 0, none⟩)), (8, .int .i64 ((k : Nat) : Int))] := hS
        have HH13 : Held w w13 [⟨g1_0, .u64, 20, F, 42⟩, ⟨g1_1, .u8, 32, z, 22⟩, ⟨g1_2, .u64, 20, fun _ => 0, 42⟩, ⟨g2_0, .u64, 320, tabP F (15 + 1), 68⟩, ⟨g6_1, .u64, 20, addP (dblN q 4) (rowP F (nib z k)), 42⟩] := hH
        clear hS hH HS12 HH12
        refine inBlock_normal ?_
        refine then_ ?_
        have hq2 : mulS F z (64 - k) = addP (dblN q 4) (rowP F (nib z k)) := hst
        rw [← hq2] at HH13
        have hLo : LOk [(0, 26, .val (.int .i64 ((k : Nat) : Int))), (1, 27, .val (.int .i64 (((k : Nat) : Int) - 1))), (2, 8, .val (.int .i64 (((k : Nat) : Int) - 1)))] := lok rfl rfl
        refine zJ (wE := w) (sz := 48) (n := 3) [0, 1, 3] [(2, .val (.pointer (some ⟨g1_0, 0, none⟩))), (3, .val (.pointer (some ⟨g1_1, 0, none⟩))), (4, .val (.pointer (some ⟨g1_2, 0, none⟩))), (5, .val (.pointer (some ⟨g2_0, 0, none⟩))), (7, .val (.pointer (some ⟨g6_1, 0, none⟩))), (8, .val (.int .i64 (((k : Nat) : Int) - 1)))] _ [⟨g1_0, none, none, .u64, 20, F, F, 42⟩, ⟨g1_1, none, none, .u8, 32, z, z, 22⟩, ⟨g1_2, none, none, .u64, 20, fun _ => 0, fun _ => 0, 42⟩, ⟨g2_0, none, none, .u64, 320, tabP F (15 + 1), tabP F (15 + 1), 68⟩, ⟨g6_1, none, none, .u64, 20, mulS F z (64 - k), mulS F z (64 - k), 42⟩] rfl (by rfl) HH13 rfl rfl hLo rfl HS13 (slS 0 rfl rfl (slS 1 rfl rfl (slS 2 rfl rfl (slS 3 rfl rfl (slS 4 rfl rfl (slL 2 (d := 2) rfl (trivial))))))) ?_ ?_
        · show ∀ i ∈ [0, 1, 2], _
          refine zA (zC 0 _ rfl rfl hLo rfl rfl (fun _ _ _ _ => rfl) (fun b G w hb ho => zF (.inl rfl) (ev_pre hLo 2 rfl (ho 2 (by rfl)) (HS13.get 5 rfl)))) ?_
          refine zA (zC 1 _ rfl rfl hLo rfl rfl (fun _ _ _ _ => rfl) (fun b G w hb ho => zV rfl (zB hLo 0 rfl HS13.1 rfl (hb 0 (by rfl))) (rfl) (sub1_run (by omega) _ _ _))) ?_
          refine zA (zC 2 _ rfl rfl hLo rfl rfl (fun _ _ _ _ => rfl) (fun b G w hb ho => zF (.inr rfl) (zB hLo 1 rfl HS13.1 rfl (hb 1 (by rfl))))) ?_
          exact zE
        clear hLo
        intro G a14 w14 hS hH
        have HS14 : Sl a14 48 [(2, .pointer (some ⟨g1_0, 0, none⟩)), (3, .pointer (some ⟨g1_1, 0, none⟩)), (4, .pointer (some ⟨g1_2, 0, none⟩)), (5, .pointer (some ⟨g2_0, 0, none⟩)), (7, .pointer (some ⟨g6_1, 0, none⟩)), (8, .int .i64 (((k : Nat) : Int) - 1))] := hS
        have HH14 : Held w w14 [⟨g1_0, .u64, 20, F, 42⟩, ⟨g1_1, .u8, 32, z, 22⟩, ⟨g1_2, .u64, 20, fun _ => 0, 42⟩, ⟨g2_0, .u64, 320, tabP F (15 + 1), 68⟩, ⟨g6_1, .u64, 20, mulS F z (64 - k), 42⟩] := hH
        clear hS hH HS13 HH13
        refine then_ ?_
        exact ⟨⟨k, by omega, HS14, HH14⟩, by rw [HS14.get 5 rfl]; show ((k : Int) - 1 + 1).toNat < k + 1; omega⟩
      · skip
        refine wp_seq ?_
        refine wp_cond_true (HS12.get 7 rfl) ?_
        refine wp_skip ?_
        refine then_ ?_
        refine wp_seq ?_
        refine wp_block ?_
        have hLo : LOk [(0, 30, .val (.agg (FR .u64 20 (dblN q j)))), (1, 31, .val (.agg (FR .u64 20 (dblN q j)))), (2, 32, .val (.agg (FR .u64 20 (addP (dblN q j) (dblN q j)))))] := lok rfl rfl
        refine zJ (wE := w) (sz := 48) (n := 4) [0, 1, 3, 7] [(2, .val (.pointer (some ⟨g1_0, 0, none⟩))), (3, .val (.pointer (some ⟨g1_1, 0, none⟩))), (4, .val (.pointer (some ⟨g1_2, 0, none⟩))), (5, .val (.pointer (some ⟨g2_0, 0, none⟩))), (7, .val (.pointer (some ⟨g6_1, 0, none⟩))), (8, .val (.int .i64 ((k : Nat) : Int))), (28, .val (.int .i64 ((j : Nat) : Int)))] _ [⟨g1_0, none, none, .u64, 20, F, F, 42⟩, ⟨g1_1, none, none, .u8, 32, z, z, 22⟩, ⟨g1_2, none, none, .u64, 20, fun _ => 0, fun _ => 0, 42⟩, ⟨g2_0, none, none, .u64, 320, tabP F (15 + 1), tabP F (15 + 1), 68⟩, ⟨g6_1, none, some 3, .u64, 20, dblN q j, addP (dblN q j) (dblN q j), 42⟩] rfl (by rfl) HH12 rfl rfl hLo rfl HS12 (slS 0 rfl rfl (slS 1 rfl rfl (slS 2 rfl rfl (slS 3 rfl rfl (slS 4 rfl rfl (slS 5 rfl rfl (slS 6 rfl rfl (trivial)))))))) ?_ ?_
        · show ∀ i ∈ [0, 1, 2, 3], _
          refine zA (zG 0 4 _ rfl rfl rfl rfl (fun _ _ _ _ => rfl) hLo rfl rfl rfl (by rfl) Tryd.underlying42 infoPt rfl (fun b G hb ho => zD rfl (HS12.get 4 rfl))) ?_
          refine zA (zG 1 4 _ rfl rfl rfl rfl (fun _ _ _ _ => rfl) hLo rfl rfl rfl (by rfl) Tryd.underlying42 infoPt rfl (fun b G hb ho => zD rfl (HS12.get 4 rfl))) ?_
          refine zA (zH 2 _ #[.agg (FR .u64 20 (dblN q j)), .agg (FR .u64 20 (dblN q j))] rfl rfl rfl (fun _ _ _ _ => rfl) hLo rfl rfl Tryd.func26 rfl rfl (fun b G hb ho => zU (zB hLo 0 rfl HS12.1 rfl (hb 0 (by rfl))) (zB hLo 1 rfl HS12.1 rfl (hb 1 (by rfl)))) (fun w hw => add_pt _ _ w (hT.below hw hT.lt) (dblN_PL hQ j) (dblN_PL hQ j))) ?_
          refine zA (zI 4 _ rfl rfl rfl rfl rfl (fun _ _ _ _ => rfl) rfl rfl rfl (by rfl) infoPt (fun b G hb ho => zD rfl (HS12.get 4 rfl)) (fun b G hb ho => zB hLo 2 rfl HS12.1 rfl (hb 2 (by rfl)))) ?_
          exact zE
        clear hLo
        intro G a15 w15 hS hH
        have HS15 : Sl a15 48 [(2, .pointer (some ⟨g1_0, 0, none⟩)), (3, .pointer (some ⟨g1_1, 0, none⟩)), (4, .pointer (some ⟨g1_2, 0, none⟩)), (5, .pointer (some ⟨g2_0, 0, none⟩)), (7, .pointer (some ⟨g6_1, 0, none⟩)), (8, .int .i64 ((k : Nat) : Int)), (28, .int .i64 ((j : Nat) : Int))] := hS
        have HH15 : Held w w15 [⟨g1_0, .u64, 20, F, 42⟩, ⟨g1_1, .u8, 32, z, 22⟩, ⟨g1_2, .u64, 20, fun _ => 0, 42⟩, ⟨g2_0, .u64, 320, tabP F (15 + 1), 68⟩, ⟨g6_1, .u64, 20, addP (dblN q j) (dblN q j), 42⟩] := hH
        clear hS hH HS12 HH12
        refine inBlock_normal ?_
        refine then_ ?_
        have hLo : LOk [(0, 33, .val (.int .i64 ((j + 1 : Nat) : Int))), (1, 28, .val (.int .i64 ((j + 1 : Nat) : Int)))] := lok rfl rfl
        refine zJ (wE := w) (sz := 48) (n := 2) [0, 1] [(2, .val (.pointer (some ⟨g1_0, 0, none⟩))), (3, .val (.pointer (some ⟨g1_1, 0, none⟩))), (4, .val (.pointer (some ⟨g1_2, 0, none⟩))), (5, .val (.pointer (some ⟨g2_0, 0, none⟩))), (7, .val (.pointer (some ⟨g6_1, 0, none⟩))), (8, .val (.int .i64 ((k : Nat) : Int))), (28, .val (.int .i64 ((j + 1 : Nat) : Int)))] _ [⟨g1_0, none, none, .u64, 20, F, F, 42⟩, ⟨g1_1, none, none, .u8, 32, z, z, 22⟩, ⟨g1_2, none, none, .u64, 20, fun _ => 0, fun _ => 0, 42⟩, ⟨g2_0, none, none, .u64, 320, tabP F (15 + 1), tabP F (15 + 1), 68⟩, ⟨g6_1, none, none, .u64, 20, dblN q (j + 1), dblN q (j + 1), 42⟩] rfl (by rfl) HH15 rfl rfl hLo rfl HS15 (slS 0 rfl rfl (slS 1 rfl rfl (slS 2 rfl rfl (slS 3 rfl rfl (slS 4 rfl rfl (slS 5 rfl rfl (slL 1 (d := 1) rfl (trivial)))))))) ?_ ?_
        · show ∀ i ∈ [0, 1], _
          refine zA (zC 0 _ rfl rfl hLo rfl rfl (fun _ _ _ _ => rfl) (fun b G w hb ho => zV rfl (ev_pre hLo 1 rfl (ho 1 (by rfl)) (HS15.get 6 rfl)) (rfl) (add1_run (by omega) _ _ _))) ?_
          refine zA (zC 1 _ rfl rfl hLo rfl rfl (fun _ _ _ _ => rfl) (fun b G w hb ho => zF (.inl rfl) (zB hLo 0 rfl HS15.1 rfl (hb 0 (by rfl))))) ?_
          exact zE
        clear hLo
        intro G a16 w16 hS hH
        have HS16 : Sl a16 48 [(2, .pointer (some ⟨g1_0, 0, none⟩)), (3, .pointer (some ⟨g1_1, 0, none⟩)), (4, .pointer (some ⟨g1_2, 0, none⟩)), (5, .pointer (some ⟨g2_0, 0, none⟩)), (7, .pointer (some ⟨g6_1, 0, none⟩)), (8, .int .i64 ((k : Nat) : Int)), (28, .int .i64 ((j + 1 : Nat) : Int))] := hS
        have HH16 : Held w w16 [⟨g1_0, .u64, 20, F, 42⟩, ⟨g1_1, .u8, 32, z, 22⟩, ⟨g1_2, .u64, 20, fun _ => 0, 42⟩, ⟨g2_0, .u64, 320, tabP F (15 + 1), 68⟩, ⟨g6_1, .u64, 20, dblN q (j + 1), 42⟩] := hH
        clear hS hH HS15 HH15
        refine then_ ?_
        have hj4 : j < 4 := by have := of_decide_eq_true hr; omega
        exact ⟨⟨j + 1, by omega, HS16, HH16⟩, by rw [HS16.get 6 rfl]; show 4 - (((j + 1 : Nat) : Int)).toNat < 4 - j; omega⟩
  · skip
    have hi16 : k + 1 < 16 := by have := of_decide_eq_true hr; omega
    refine wp_cond_true (HS5.get 5 rfl) ?_
    refine wp_skip ?_
    refine then_ ?_
    refine wp_seq ?_
    refine wp_block ?_
    have hLo : LOk [(0, 15, .val (.int .i64 ((k + 1 : Nat) : Int))), (1, 16, .val (.int .i64 ((k + 1 : Nat) : Int))), (2, 17, .val (.int .i64 ((k : Nat) : Int))), (3, 18, .val (.pointer (some ⟨g2_0, k * 20, none⟩))), (4, 19, .val (.agg (FR .u64 20 (rowP F k)))), (5, 20, .val (.agg (FR .u64 20 (F)))), (6, 21, .val (.agg (FR .u64 20 (addP (rowP F k) (F))))), (7, 22, .val (.pointer (some ⟨g2_0, (k + 1) * 20, none⟩)))] := lok rfl rfl
    refine yK (wE := w) (sz := 48) (n := 9) (B := [0, 0, 2, 6, 14, 0, 62, 127, 255]) [0, 1, 2, 3, 4, 5, 6, 7, 8] [(2, .val (.pointer (some ⟨g1_0, 0, none⟩))), (3, .val (.pointer (some ⟨g1_1, 0, none⟩))), (4, .val (.pointer (some ⟨g1_2, 0, none⟩))), (5, .val (.pointer (some ⟨g2_0, 0, none⟩))), (6, .val (.int .i64 ((k + 1 : Nat) : Int)))] _ [⟨g1_0, none, none, .u64, 20, F, F, 42⟩, ⟨g1_1, none, none, .u8, 32, z, z, 22⟩, ⟨g1_2, none, none, .u64, 20, fun _ => 0, fun _ => 0, 42⟩, ⟨g2_0, none, some 8, .u64, 320, tabP F (k + 1), updR (tabP F (k + 1)) ((k + 1) * 20) 20 (addP (rowP F k) (F)), 68⟩] (by rfl) rfl tabmul_6 bitsmul_6 (by kernel_rfl) (by kernel_rfl) HH5 rfl rfl hLo rfl HS5 (slS 0 rfl rfl (slS 1 rfl rfl (slS 2 rfl rfl (slS 3 rfl rfl (slS 4 rfl rfl (trivial)))))) ?_ ?_
    · show ∀ i ∈ [0, 1, 2, 3, 4, 5, 6, 7, 8], _
      refine zA (zC 0 _ rfl rfl hLo rfl rfl (fun _ _ _ _ => rfl) (fun b G w hb ho => zF (.inl rfl) (zD rfl (HS5.get 4 rfl)))) ?_
      refine zA (zC 1 _ rfl rfl hLo rfl rfl (fun _ _ _ _ => rfl) (fun b G w hb ho => zF (.inl rfl) (zD rfl (HS5.get 4 rfl)))) ?_
      refine zA (zC 2 _ rfl rfl hLo rfl rfl (fun _ _ _ _ => rfl) (fun b G w hb ho => zV rfl (zB hLo 1 rfl HS5.1 rfl (hb 1 (by rfl))) (rfl) (subk_run (by omega) _ _ _))) ?_
      refine zA (zC 3 _ rfl rfl hLo rfl rfl (fun _ _ _ _ => rfl) (fun b G w hb ho => exec_indexAddr rfl (zD rfl (HS5.get 3 rfl)) (zB hLo 2 rfl HS5.1 rfl (hb 2 (by rfl))) (index74_run (by omega) _ _))) ?_
      refine zA (st_read 4 3 _ _ rfl rfl rfl hLo rfl rfl (fun _ _ _ _ => rfl) (by rfl) (by rfl) (fun b G w hb ho hr => exec_load_at (f := rowP F k) (fun j hj => by rw [add_at]; exact (hr.cell (k * 20 + j) (by have := hi16; show k * 20 + j < 320; omega)).trans (congrArg (fun y => some (Value.int .u64 y)) (tabP_at (Nat.lt_succ_self k) j hj))) Tryd.underlying42 infoPt rfl rfl (zB hLo 3 rfl HS5.1 rfl (hb 3 (by rfl))))) ?_
      refine zA (zG 5 0 _ rfl rfl rfl rfl (fun _ _ _ _ => rfl) hLo rfl rfl rfl (by rfl) Tryd.underlying42 infoPt rfl (fun b G hb ho => zD rfl (HS5.get 0 rfl))) ?_
      refine zA (zH 6 _ #[.agg (FR .u64 20 (rowP F k)), .agg (FR .u64 20 (F))] rfl rfl rfl (fun _ _ _ _ => rfl) hLo rfl rfl Tryd.func26 rfl rfl (fun b G hb ho => zU (zB hLo 4 rfl HS5.1 rfl (hb 4 (by rfl))) (zB hLo 5 rfl HS5.1 rfl (hb 5 (by rfl)))) (fun w hw => add_pt _ _ w (hT.below hw hT.lt) (rowP_PL hF k) (hF))) ?_
      refine zA (zC 7 _ rfl rfl hLo rfl rfl (fun _ _ _ _ => rfl) (fun b G w hb ho => exec_indexAddr rfl (zD rfl (HS5.get 3 rfl)) (zB hLo 0 rfl HS5.1 rfl (hb 0 (by rfl))) (index74_run (by omega) _ _))) ?_
      refine zA (st_put 3 _ rfl rfl rfl rfl (fun _ _ _ _ => rfl) rfl rfl rfl (by rfl) (fun b G w hb ho hr => exec_part hr (by show (k + 1) * 20 + 20 ≤ 320; omega) infoPt rfl (zB hLo 7 rfl HS5.1 rfl (hb 7 (by rfl))) (zB hLo 6 rfl HS5.1 rfl (hb 6 (by rfl))))) ?_
      exact zE
    clear hLo
    intro G a67 w67 hS hH
    have HS67 : Sl a67 48 [(2, .pointer (some ⟨g1_0, 0, none⟩)), (3, .pointer (some ⟨g1_1, 0, none⟩)), (4, .pointer (some ⟨g1_2, 0, none⟩)), (5, .pointer (some ⟨g2_0, 0, none⟩)), (6, .int .i64 ((k + 1 : Nat) : Int))] := hS
    have HH67 : Held w w67 [⟨g1_0, .u64, 20, F, 42⟩, ⟨g1_1, .u8, 32, z, 22⟩, ⟨g1_2, .u64, 20, fun _ => 0, 42⟩, ⟨g2_0, .u64, 320, updR (tabP F (k + 1)) ((k + 1) * 20) 20 (addP (rowP F k) (F)), 68⟩] := hH
    clear hS hH HS5 HH5
    refine inBlock_normal ?_
    refine then_ ?_
    rw [show updR (tabP F (k + 1)) ((k + 1) * 20) 20 (addP (rowP F k) F) = tabP F (k + 1 + 1) from tabP_step F (k + 1)] at HH67
    have hLo : LOk [(0, 13, .val (.int .i64 ((k + 1 : Nat) : Int))), (1, 14, .val (.int .i64 ((k + 1 + 1 : Nat) : Int))), (2, 6, .val (.int .i64 ((k + 1 + 1 : Nat) : Int)))] := lok rfl rfl
    refine zJ (wE := w) (sz := 48) (n := 3) [0, 1, 3] [(2, .val (.pointer (some ⟨g1_0, 0, none⟩))), (3, .val (.pointer (some ⟨g1_1, 0, none⟩))), (4, .val (.pointer (some ⟨g1_2, 0, none⟩))), (5, .val (.pointer (some ⟨g2_0, 0, none⟩))), (6, .val (.int .i64 ((k + 1 + 1 : Nat) : Int)))] _ [⟨g1_0, none, none, .u64, 20, F, F, 42⟩, ⟨g1_1, none, none, .u8, 32, z, z, 22⟩, ⟨g1_2, none, none, .u64, 20, fun _ => 0, fun _ => 0, 42⟩, ⟨g2_0, none, none, .u64, 320, tabP F (k + 1 + 1), tabP F (k + 1 + 1), 68⟩] rfl (by rfl) HH67 rfl rfl hLo rfl HS67 (slS 0 rfl rfl (slS 1 rfl rfl (slS 2 rfl rfl (slS 3 rfl rfl (slL 2 (d := 2) rfl (trivial)))))) ?_ ?_
    · show ∀ i ∈ [0, 1, 2], _
      refine zA (zC 0 _ rfl rfl hLo rfl rfl (fun _ _ _ _ => rfl) (fun b G w hb ho => zF (.inl rfl) (ev_pre hLo 2 rfl (ho 2 (by rfl)) (HS67.get 4 rfl)))) ?_
      refine zA (zC 1 _ rfl rfl hLo rfl rfl (fun _ _ _ _ => rfl) (fun b G w hb ho => zV rfl (zB hLo 0 rfl HS67.1 rfl (hb 0 (by rfl))) (rfl) (add1_run (by omega) _ _ _))) ?_
      refine zA (zC 2 _ rfl rfl hLo rfl rfl (fun _ _ _ _ => rfl) (fun b G w hb ho => zF (.inr rfl) (zB hLo 1 rfl HS67.1 rfl (hb 1 (by rfl))))) ?_
      exact zE
    clear hLo
    intro G a68 w68 hS hH
    have HS68 : Sl a68 48 [(2, .pointer (some ⟨g1_0, 0, none⟩)), (3, .pointer (some ⟨g1_1, 0, none⟩)), (4, .pointer (some ⟨g1_2, 0, none⟩)), (5, .pointer (some ⟨g2_0, 0, none⟩)), (6, .int .i64 ((k + 1 + 1 : Nat) : Int))] := hS
    have HH68 : Held w w68 [⟨g1_0, .u64, 20, F, 42⟩, ⟨g1_1, .u8, 32, z, 22⟩, ⟨g1_2, .u64, 20, fun _ => 0, 42⟩, ⟨g2_0, .u64, 320, tabP F (k + 1 + 1), 68⟩] := hH
    clear hS hH HS67 HH67
    refine then_ ?_
    exact ⟨⟨k + 1 + 1, by omega, by omega, HS68, HH68⟩, by rw [HS68.get 4 rfl]; show 16 - (((k + 1 + 1 : Nat) : Int)).toNat < 16 - (k + 1); omega⟩
end Go.Proofs.YtbmnkchcekacfaaDoor.P
end

section
namespace Go.Proofs.YtbmnkchcekacfaaDoor.P
set_option linter.unusedVariables false
open Go.Proofs.YtbmnkchcekacfaaDoor.P.Fd
def eF (f : Nat → Int) : Fin PN := toF (V51 f)
def rF (f : Nat → Int) : Fin PN := toF (V16 f)
theorem eF_mul {f g : Nat → Int} (hf : Lm f) (hg : Lm g) : eF (mulE f g) = eF f * eF g := by unfold eF; rw [← toF_mul, toF_eq]; exact (Fe.mul (n := V51 f) (m := V51 g) ⟨hf, rfl⟩ ⟨hg, rfl⟩).2
theorem eF_add {f g : Nat → Int} (hf : Lm f) (hg : Lm g) : eF (addE f g) = eF f + eF g := by unfold eF; rw [← toF_add, toF_eq]; exact (Fe.add (n := V51 f) (m := V51 g) ⟨hf, rfl⟩ ⟨hg, rfl⟩).2
theorem eF_sub {f g : Nat → Int} (hf : Lm f) (hg : Lm g) : eF (subE f g) = eF f - eF g := by unfold eF; rw [← toF_sub, toF_eq]; exact (Fe.sub (n := V51 f) (m := V51 g) ⟨hf, rfl⟩ ⟨hg, rfl⟩).2
theorem eF_neg {g : Nat → Int} (hg : Lm g) : eF (negE g) = - eF g := by
  have h : eF (negE g) = toF (0 - V51 g) := by unfold eF; rw [toF_eq]; exact (Fe.neg (m := V51 g) ⟨hg, rfl⟩).2
  rw [h, toF_sub, toF_zero]; exact zsub _
theorem rF_mul {f g : Nat → Int} (hf : Rn f) (hg : Rn g) : rF (mulR f g) = rF f * rF g := by unfold rF; rw [← toF_mul, toF_eq]; exact (Re.mul (n := V16 f) (m := V16 g) ⟨hf, rfl⟩ ⟨hg, rfl⟩).2
theorem rF_add {f g : Nat → Int} (hf : Rn f) (hg : Rn g) : rF (addR f g) = rF f + rF g := by unfold rF; rw [← toF_add, toF_eq]; exact (Re.add (n := V16 f) (m := V16 g) ⟨hf, rfl⟩ ⟨hg, rfl⟩).2
theorem rF_sub {f g : Nat → Int} (hf : Rn f) (hg : Rn g) : rF (subR f g) = rF f - rF g := by unfold rF; rw [← toF_sub, toF_eq]; exact (Re.sub (n := V16 f) (m := V16 g) ⟨hf, rfl⟩ ⟨hg, rfl⟩).2
theorem eF_same {f g : Nat → Int} (h : ∀ j, j < 5 → f j = g j) : eF f = eF g := by
  unfold eF V51
  rw [h 0 (by omega), h 1 (by omega), h 2 (by omega), h 3 (by omega), h 4 (by omega)]
theorem dN_is : N32 dB % PP = (dN : Int) % PP := by decide
theorem eF_d : eF (carr (ofL dB)) = dF := by unfold eF dF; rw [toF_eq, (Fe.of dB dB_By).2]; exact dN_is
theorem eF_small (n : Int) : eF (smL n) = toF n := by unfold eF; rw [smL_V]
theorem two_is : toF 2 = 2 := by rw [show (2 : Int) = 1 + 1 by decide, toF_add, toF_one]; exact two_F
def PRep (F : Nat → Int) (P : Pt dF) : Prop := PL F ∧ Rep dF (eF (co F 0)) (eF (co F 5)) (eF (co F 10)) (eF (co F 15)) P
theorem prep_pt {a b c d : Nat → Int} {P : Pt dF} (h : PL (pt4 a b c d)) (hr : Rep dF (eF a) (eF b) (eF c) (eF d) P) : PRep (pt4 a b c d) P := by
  refine ⟨h, ?_⟩
  rw [← eF_same (co_pt (a := a) (b := b) (c := c) (d := d)).1, ← eF_same (co_pt (a := a) (b := b) (c := c) (d := d)).2.1, ← eF_same (co_pt (a := a) (b := b) (c := c) (d := d)).2.2.1, ← eF_same (co_pt (a := a) (b := b) (c := c) (d := d)).2.2.2]
  exact hr
theorem PRep.add {F H : Nat → Int} {P Q : Pt dF} (hF : PRep F P) (hH : PRep H Q) : PRep (addP F H) (P.add fld Q) := by
  obtain ⟨pf, rf⟩ := hF
  obtain ⟨ph, rh⟩ := hH
  refine prep_pt (addP_PL pf ph) ?_
  rw [eF_mul (fP_Lm pf ph) (gP_Lm pf ph), eF_mul (hP_Lm pf ph) (iP_Lm pf ph), eF_mul (gP_Lm pf ph) (hP_Lm pf ph), eF_mul (fP_Lm pf ph) (iP_Lm pf ph)]
  have hA : eF (aP F H) = (eF (co F 5) - eF (co F 0)) * (eF (co H 5) - eF (co H 0)) := by unfold aP; rw [eF_mul (lsub pf.2.1 pf.1) (lsub ph.2.1 ph.1), eF_sub pf.2.1 pf.1, eF_sub ph.2.1 ph.1]
  have hB : eF (bP F H) = (eF (co F 5) + eF (co F 0)) * (eF (co H 5) + eF (co H 0)) := by unfold bP; rw [eF_mul (ladd pf.2.1 pf.1) (ladd ph.2.1 ph.1), eF_add pf.2.1 pf.1, eF_add ph.2.1 ph.1]
  have hC : eF (cP F H) = eF (co F 15) * eF (co H 15) * dF * 2 := by unfold cP; rw [eF_mul (lmul (lmul pf.2.2.2 ph.2.2.2) (lof dB_By)) (smL_Lm 2 (by omega)), eF_mul (lmul pf.2.2.2 ph.2.2.2) (lof dB_By), eF_mul pf.2.2.2 ph.2.2.2, eF_d, eF_small, two_is]
  have hE : eF (eP F H) = eF (co F 10) * eF (co H 10) * 2 := by unfold eP; rw [eF_mul (lmul pf.2.2.1 ph.2.2.1) (smL_Lm 2 (by omega)), eF_mul pf.2.2.1 ph.2.2.1, eF_small, two_is]
  exact Rep.add fld rf rh _ _ _ _ _ _ _ _ hA hB hC hE (eF_sub (bP_Lm pf ph) (aP_Lm pf ph)) (eF_sub (eP_Lm pf ph) (cP_Lm pf ph)) (eF_add (eP_Lm pf ph) (cP_Lm pf ph)) (eF_add (bP_Lm pf ph) (aP_Lm pf ph))
theorem rF_same {f g : Nat → Int} (h : ∀ j, j < 16 → f j = g j) : rF f = rF g := by
  unfold rF V16
  rw [val_congr 65536 f g 16 h]
theorem rF_d : rF dR = dF := by unfold rF dF; rw [toF_eq, dR_Re.2]; exact dN_is
theorem rF_one : rF oneR = 1 := by unfold rF oneR; rw [← toF_one, toF_eq]; exact (Re.small 1 (by omega)).2
def RRep (F : Nat → Int) (P : Pt dF) : Prop := PR F ∧ Rep dF (rF (co F 0)) (rF (co F 16)) (rF (co F 32)) (rF (co F 48)) P
theorem rrep_pr {a b c d : Nat → Int} {P : Pt dF} (h : PR (pr4 a b c d)) (hr : Rep dF (rF a) (rF b) (rF c) (rF d) P) : RRep (pr4 a b c d) P := by
  refine ⟨h, ?_⟩
  rw [← rF_same (co_pr (a := a) (b := b) (c := c) (d := d)).1, ← rF_same (co_pr (a := a) (b := b) (c := c) (d := d)).2.1, ← rF_same (co_pr (a := a) (b := b) (c := c) (d := d)).2.2.1, ← rF_same (co_pr (a := a) (b := b) (c := c) (d := d)).2.2.2]
  exact hr
theorem RRep.add {F H : Nat → Int} {P Q : Pt dF} (hF : RRep F P) (hH : RRep H Q) : RRep (addRP F H) (P.add fld Q) := by
  obtain ⟨pf, rf⟩ := hF
  obtain ⟨ph, rh⟩ := hH
  refine rrep_pr (addRP_PR pf ph) ?_
  rw [rF_mul (crR_Rn pf ph) (loR_Rn pf ph), rF_mul (hiR_Rn pf ph) (suR_Rn pf ph), rF_mul (loR_Rn pf ph) (hiR_Rn pf ph), rF_mul (crR_Rn pf ph) (suR_Rn pf ph)]
  have hx : rF (xR F H) = rF (co F 0) * rF (co H 0) := rF_mul pf.1 ph.1
  have hy : rF (yR F H) = rF (co F 16) * rF (co H 16) := rF_mul pf.2.1 ph.2.1
  have hz : rF (zR F H) = rF (co F 32) * rF (co H 32) := rF_mul pf.2.2.1 ph.2.2.1
  have ht : rF (tR F H) = rF (co F 48) * rF (co H 48) * dF := by unfold tR; rw [rF_mul (rmul pf.2.2.2 ph.2.2.2) dR_Rn, rF_mul pf.2.2.2 ph.2.2.2, rF_d]
  have hc : rF (crR F H) = (rF (co F 0) + rF (co F 16)) * (rF (co H 0) + rF (co H 16)) - (rF (xR F H) + rF (yR F H)) := by unfold crR; rw [rF_sub (rmul (radd pf.1 pf.2.1) (radd ph.1 ph.2.1)) (radd (xR_Rn pf ph) (yR_Rn pf ph)), rF_mul (radd pf.1 pf.2.1) (radd ph.1 ph.2.1), rF_add pf.1 pf.2.1, rF_add ph.1 ph.2.1, rF_add (xR_Rn pf ph) (yR_Rn pf ph)]
  exact Rep.addR fld rf rh _ _ _ _ _ _ _ _ hx hy hz ht hc (rF_sub (zR_Rn pf ph) (tR_Rn pf ph)) (rF_add (zR_Rn pf ph) (tR_Rn pf ph)) (rF_add (yR_Rn pf ph) (xR_Rn pf ph))
theorem eF_zero : eF (fun _ => 0) = 0 := by unfold eF; rw [← toF_zero, toF_eq]; exact Fe.zero.2
theorem rF_zero : rF (fun _ => 0) = 0 := by unfold rF; rw [← toF_zero, toF_eq]; exact Re.zero.2
theorem PRep.zero : PRep zeroP (Pt.zero dF) := prep_pt zeroP_PL (by
  rw [eF_zero, eF_small, toF_one]
  exact ⟨fld.one, by show (0 : Fin PN) = 0 * 1; grind, by show (1 : Fin PN) = 1 * 1; grind, by show (0 : Fin PN) = 0 * 1 * 1; grind⟩)
theorem RRep.zero : RRep zeroRP (Pt.zero dF) := rrep_pr zeroRP_PR (by
  rw [rF_zero, rF_one]
  exact ⟨fld.one, by show (0 : Fin PN) = 0 * 1; grind, by show (1 : Fin PN) = 1 * 1; grind, by show (0 : Fin PN) = 0 * 1 * 1; grind⟩)
theorem PRep.neg {F : Nat → Int} {P : Pt dF} (h : PRep F P) : PRep (negP F) P.neg := by
  obtain ⟨p, z, x, y, t⟩ := h
  refine prep_pt (pl_pt (lneg p.1) p.2.1 p.2.2.1 (lneg p.2.2.2)) ?_
  rw [eF_neg p.1, eF_neg p.2.2.2]
  refine ⟨z, ?_, y, ?_⟩
  · show - eF (co F 0) = - P.1.1 * _
    rw [x]; grind
  · show - eF (co F 15) = - P.1.1 * P.1.2 * _
    rw [t]; grind
theorem RRep.neg {F : Nat → Int} {P : Pt dF} (h : RRep F P) : RRep (negRP F) P.neg := by
  obtain ⟨p, z, x, y, t⟩ := h
  refine rrep_pr (pr_pr (rsub Re.zero.1 p.1) p.2.1 p.2.2.1 (rsub Re.zero.1 p.2.2.2)) ?_
  rw [rF_sub Re.zero.1 p.1, rF_sub Re.zero.1 p.2.2.2, rF_zero]
  refine ⟨z, ?_, y, ?_⟩
  · show 0 - rF (co F 0) = - P.1.1 * _
    rw [x]; grind
  · show 0 - rF (co F 48) = - P.1.1 * P.1.2 * _
    rw [t]; grind
theorem PRep.row {F : Nat → Int} {P : Pt dF} (h : PRep F P) : ∀ i, PRep (rowP F i) (P.mul fld i)
  | 0 => PRep.zero
  | i + 1 => (PRep.row h i).add h
theorem PRep.dbl {q : Nat → Int} {P : Pt dF} {n : Nat} (h : PRep q (P.mul fld n)) : ∀ j, PRep (dblN q j) (P.mul fld (n * 2 ^ j))
  | 0 => by rw [Nat.pow_zero, Nat.mul_one]; exact h
  | j + 1 => by
    rw [show n * 2 ^ (j + 1) = n * 2 ^ j + n * 2 ^ j by rw [Nat.pow_succ, ← Nat.mul_assoc, Nat.mul_two], Pt.mul_add]
    exact (PRep.dbl h j).add (PRep.dbl h j)
def nval (z : Nat → Int) : Nat → Nat
  | 0 => 0
  | s + 1 => nval z s * 16 + nib z (63 - s)
theorem PRep.muls {F z : Nat → Int} {P : Pt dF} (h : PRep F P) : ∀ s, PRep (mulS F z s) (P.mul fld (nval z s))
  | 0 => PRep.zero
  | s + 1 => by
    show PRep (addP (dblN (mulS F z s) 4) (rowP F (nib z (63 - s)))) (P.mul fld (nval z s * 16 + nib z (63 - s)))
    rw [Pt.mul_add]
    exact (PRep.dbl (PRep.muls h s) 4).add (h.row _)
def bval (z : Nat → Int) : Nat → Nat
  | 0 => 0
  | s + 1 => if bitB z (255 - s) then bval z s + bval z s + 1 else bval z s + bval z s
theorem RRep.muls {F z : Nat → Int} {P : Pt dF} (h : RRep F P) : ∀ s, RRep (mulRS F z s) (P.mul fld (bval z s))
  | 0 => RRep.zero
  | s + 1 => by
    unfold mulRS bval
    split
    · rw [Pt.mul_add, Pt.mul_one, Pt.mul_add]
      exact ((RRep.muls h s).add (RRep.muls h s)).add h
    · rw [Pt.mul_add]
      exact (RRep.muls h s).add (RRep.muls h s)
def NZ (z : Nat → Int) : Nat := (N32 z).toNat
theorem dig_of {z : Nat → Int} (hz : By z) : ∀ n, n ≤ 32 → ∃ m : Nat, val 256 z n = (m : Int) ∧ m < 256 ^ n ∧ ∀ k, k < n → (z k).toNat = m / 256 ^ k % 256
  | 0, _ => ⟨0, rfl, by decide, fun k hk => by omega⟩
  | n + 1, h => by
    obtain ⟨m, h1, h2, h3⟩ := dig_of hz n (by omega)
    have hb := hz n (by omega)
    obtain ⟨d, hd⟩ : ∃ d : Nat, z n = (d : Int) := ⟨(z n).toNat, by omega⟩
    have hd2 : d < 256 := by omega
    refine ⟨m + d * 256 ^ n, ?_, ?_, fun k hk => ?_⟩
    · show val 256 z n + z n * 256 ^ n = _
      rw [h1, hd]; simp
    · rw [Nat.pow_succ]
      have : d * 256 ^ n ≤ 255 * 256 ^ n := Nat.mul_le_mul_right _ (by omega)
      omega
    · by_cases hkn : k = n
      · subst hkn
        rw [Nat.add_mul_div_right _ _ (Nat.pow_pos (by omega)), Nat.div_eq_of_lt h2, hd]
        simp; omega
      · have e : 256 ^ n = 256 ^ k * (256 * 256 ^ (n - k - 1)) := by rw [← Nat.pow_succ', ← Nat.pow_add]; congr 1; omega
        rw [h3 k (by omega), e, show m + d * (256 ^ k * (256 * 256 ^ (n - k - 1))) = m + 256 ^ k * (256 * (d * 256 ^ (n - k - 1))) by rw [Nat.mul_left_comm, Nat.mul_left_comm d]]
        rw [Nat.add_mul_div_left _ _ (Nat.pow_pos (by omega)), Nat.add_mul_mod_self_left]
theorem NZ_of {z : Nat → Int} (hz : By z) : NZ z < 256 ^ 32 ∧ ∀ k, k < 32 → (z k).toNat = NZ z / 256 ^ k % 256 := by
  obtain ⟨m, h1, h2, h3⟩ := dig_of hz 32 (by omega)
  have e : NZ z = m := by unfold NZ N32; rw [h1]; rfl
  rw [e]
  exact ⟨h2, h3⟩
theorem nib_of {z : Nat → Int} (hz : By z) {k : Nat} (hk : k < 64) : nib z k = NZ z / 16 ^ k % 16 := by
  have h := (NZ_of hz).2 (k / 2) (by omega)
  have hb := hz (k / 2) (by omega)
  obtain ⟨d, hd⟩ : ∃ d : Nat, z (k / 2) = (d : Int) := ⟨(z (k / 2)).toNat, by omega⟩
  rw [hd] at h
  have h' : d = NZ z / 256 ^ (k / 2) % 256 := h
  unfold nib
  rw [hd]
  generalize NZ z = N at *
  rcases Nat.mod_two_eq_zero_or_one k with h0 | h0
  · rw [h0]
    have e : 16 ^ k = 256 ^ (k / 2) := by rw [show (256 : Nat) = 16 ^ 2 by decide, ← Nat.pow_mul]; congr 1; omega
    rw [e]
    generalize N / 256 ^ (k / 2) = y at *
    simp
    omega
  · rw [h0]
    have e : 16 ^ k = 256 ^ (k / 2) * 16 := by rw [show (256 : Nat) = 16 ^ 2 by decide, ← Nat.pow_mul, ← Nat.pow_succ]; congr 1; omega
    rw [e, ← Nat.div_div_eq_div_mul]
    generalize N / 256 ^ (k / 2) = y at *
    simp
    omega
theorem nval_of {z : Nat → Int} (hz : By z) : ∀ s, s ≤ 64 → nval z s = NZ z / 16 ^ (64 - s)
  | 0, _ => by
    have h := (NZ_of hz).1
    show 0 = _
    rw [Nat.div_eq_of_lt (by rw [show (16 : Nat) ^ (64 - 0) = 256 ^ 32 by decide]; exact h)]
  | s + 1, h => by
    show nval z s * 16 + nib z (63 - s) = _
    rw [nval_of hz s (by omega), nib_of hz (by omega), show 64 - s = (63 - s) + 1 by omega, Nat.pow_succ, ← Nat.div_div_eq_div_mul, show 64 - (s + 1) = 63 - s by omega]
    omega
theorem nval_is {z : Nat → Int} (hz : By z) : nval z 64 = NZ z := by rw [nval_of hz 64 (by omega)]; simp
theorem bit_of {z : Nat → Int} (hz : By z) {k : Nat} (hk : k < 256) : bitB z k = (NZ z / 2 ^ k % 2 == 1) := by
  have h := (NZ_of hz).2 (k / 8) (by omega)
  have hb := hz (k / 8) (by omega)
  obtain ⟨d, hd⟩ : ∃ d : Nat, z (k / 8) = (d : Int) := ⟨(z (k / 8)).toNat, by omega⟩
  rw [hd] at h
  have h' : d = NZ z / 256 ^ (k / 8) % 256 := h
  unfold bitB
  rw [hd]
  have e : 2 ^ k = 256 ^ (k / 8) * 2 ^ (k % 8) := by rw [show (256 : Nat) = 2 ^ 8 by decide, ← Nat.pow_mul, ← Nat.pow_add]; congr 1; omega
  have e2 : (d : Int) / 2 ^ (k % 8) % 2 = ((d / 2 ^ (k % 8) % 2 : Nat) : Int) := by simp
  have e3 : d / 2 ^ (k % 8) % 2 = NZ z / 2 ^ k % 2 := by
    rw [e, ← Nat.div_div_eq_div_mul, h']
    generalize NZ z / 256 ^ (k / 8) = y
    have h8 : k % 8 < 8 := by omega
    rw [show (256 : Nat) = 2 ^ (k % 8) * 2 ^ (8 - k % 8) by rw [← Nat.pow_add, show k % 8 + (8 - k % 8) = 8 by omega], Nat.mod_mul_right_div_self, Nat.mod_mod_of_dvd _ (by rw [show 8 - k % 8 = (7 - k % 8) + 1 by omega, Nat.pow_succ]; exact Nat.dvd_mul_left 2 _)]
  rw [e2, e3]
  rcases Nat.mod_two_eq_zero_or_one (NZ z / 2 ^ k) with h0 | h0 <;> rw [h0] <;> rfl
theorem bval_of {z : Nat → Int} (hz : By z) : ∀ s, s ≤ 256 → bval z s = NZ z / 2 ^ (256 - s)
  | 0, _ => by
    have h := (NZ_of hz).1
    show 0 = _
    rw [Nat.div_eq_of_lt (by rw [show (2 : Nat) ^ (256 - 0) = 256 ^ 32 by decide]; exact h)]
  | s + 1, h => by
    unfold bval
    rw [bval_of hz s (by omega), bit_of hz (by omega), show 256 - s = (255 - s) + 1 by omega, Nat.pow_succ, ← Nat.div_div_eq_div_mul, show 256 - (s + 1) = 255 - s by omega]
    split
    · rename_i h1
      have h1 := eq_of_beq h1
      omega
    · rename_i h1
      have : ¬ NZ z / 2 ^ (255 - s) % 2 = 1 := fun e => h1 (by rw [e]; rfl)
      omega
theorem bval_is {z : Nat → Int} (hz : By z) : bval z 256 = NZ z := by rw [bval_of hz 256 (by omega)]; simp
theorem PRep.mul {F z : Nat → Int} {P : Pt dF} (h : PRep F P) (hz : By z) : PRep (mulP F z) (P.mul fld (NZ z)) := by rw [← nval_is hz]; exact PRep.muls h 64
theorem RRep.mul {F z : Nat → Int} {P : Pt dF} (h : RRep F P) (hz : By z) : RRep (mulRP F z) (P.mul fld (NZ z)) := by rw [← bval_is hz]; exact RRep.muls h 256
theorem cross {a b p q : Fin PN} (hp : p ≠ 0) (hq : q ≠ 0) : a * p * q = b * q * p ↔ a = b := by
  constructor
  · intro h
    refine fld.cancel (fld.mul_ne hp hq) ?_
    grind
  · rintro rfl; grind
theorem eF_inv {f : Nat → Int} (hf : Lm f) (h : eF f ≠ 0) : eF f * eF (invE f) = 1 := by
  have h1 : eF (invE f) = toF (V51 f ^ (PN - 2)) := by unfold eF; rw [toF_eq]; exact (Fe.inv (n := V51 f) ⟨hf, rfl⟩).2
  rw [h1]
  unfold eF at h ⊢
  rw [← toF_mul, ← toF_one, toF_eq]
  have h2 := inv_mul (V51 f)
  rw [decide_eq_false (toF_ne.1 h)] at h2
  exact of_decide_eq_true h2
theorem rF_inv {f : Nat → Int} (hf : Rn f) (h : rF f ≠ 0) : rF f * rF (invR f) = 1 := by
  have h1 : rF (invR f) = toF (V16 f ^ (PN - 2)) := by
    unfold rF; rw [toF_eq]
    have h := Re.pow (n := V16 f) ⟨hf, rfl⟩ (exB 255 21) 256
    rw [exp_inv] at h
    exact h.2
  rw [h1]
  unfold rF at h ⊢
  rw [← toF_mul, ← toF_one, toF_eq]
  have h2 := inv_mul (V16 f)
  rw [decide_eq_false (toF_ne.1 h)] at h2
  exact of_decide_eq_true h2
theorem val_of {f : Nat → Int} {a : Fin PN} (h : eF f = a) : V51 f % PP = (a.val : Int) := by rw [← h]; exact (toF_val _).symm
theorem valR_of {f : Nat → Int} {a : Fin PN} (h : rF f = a) : V16 f % PP = (a.val : Int) := by rw [← h]; exact (toF_val _).symm
theorem PRep.y {F : Nat → Int} {P : Pt dF} (h : PRep F P) : V51 (yE F) % PP = (P.1.2.val : Int) := by
  obtain ⟨p, z, x, y, t⟩ := h
  apply val_of
  have hi := eF_inv p.2.2.1 z
  unfold yE
  rw [eF_mul p.2.1 (linv p.2.2.1), y]
  grind
theorem PRep.x {F : Nat → Int} {P : Pt dF} (h : PRep F P) : V51 (xE F) % PP = (P.1.1.val : Int) := by
  obtain ⟨p, z, x, y, t⟩ := h
  apply val_of
  have hi := eF_inv p.2.2.1 z
  unfold xE
  rw [eF_mul p.1 (linv p.2.2.1), x]
  grind
theorem RRep.y {F : Nat → Int} {P : Pt dF} (h : RRep F P) : V16 (yR' F) % PP = (P.1.2.val : Int) := by
  obtain ⟨p, z, x, y, t⟩ := h
  apply valR_of
  have hi := rF_inv p.2.2.1 z
  unfold yR'
  rw [rF_mul p.2.1 (rinv p.2.2.1), y]
  grind
theorem RRep.x {F : Nat → Int} {P : Pt dF} (h : RRep F P) : V16 (xR' F) % PP = (P.1.1.val : Int) := by
  obtain ⟨p, z, x, y, t⟩ := h
  apply valR_of
  have hi := rF_inv p.2.2.1 z
  unfold xR'
  rw [rF_mul p.1 (rinv p.2.2.1), x]
  grind
def ptB (P : Pt dF) : Nat → Int := if P.1.1.val % 2 = 1 then upd (dig 256 (P.1.2.val : Int)) 31 (dig 256 (P.1.2.val : Int) 31 + 128) else dig 256 (P.1.2.val : Int)
theorem or128 (x : Int) (h : 0 ≤ x ∧ x < 128) : Go.bits .or .u8 x 128 = x + 128 := by
  have hx : ∀ n : Fin 128, Go.bits .or .u8 (n.val : Int) 128 = (n.val : Int) + 128 := by decide +kernel
  have := hx ⟨x.toNat, by omega⟩
  simp only [Int.toNat_of_nonneg h.1] at this
  exact this
theorem top_lt (a : Fin PN) : 0 ≤ dig 256 (a.val : Int) 31 ∧ dig 256 (a.val : Int) 31 < 128 := by
  have ha := a.2
  unfold PN at ha
  unfold dig
  rw [show (256 : Int) ^ 31 = 452312848583266388373324160190187140051835877600158453279131187530910662656 by decide]
  omega
theorem PRep.bytes {F : Nat → Int} {P : Pt dF} (h : PRep F P) : bytesP F = ptB P := by
  unfold bytesP oddE yB ptB
  rw [h.y, h.x, or128 _ (top_lt _)]
  by_cases hx : P.1.1.val % 2 = 1
  · have : (P.1.1.val : Int) % 2 = 1 := by omega
    simp [hx, this]
  · have : ¬ (P.1.1.val : Int) % 2 = 1 := by omega
    simp [hx, this]
theorem RRep.bytes {F : Nat → Int} {P : Pt dF} (h : RRep F P) : bytesRP F = ptB P := by
  unfold bytesRP oddR yRB ptB
  have ht := top_lt P.1.2
  have e : (dig 256 (P.1.2.val : Int) 31 + 128) % 256 = dig 256 (P.1.2.val : Int) 31 + 128 := by omega
  rw [h.y, h.x, e]
  by_cases hx : P.1.1.val % 2 = 1
  · have : (P.1.1.val : Int) % 2 = 1 := by omega
    simp [hx, this]
  · have : ¬ (P.1.1.val : Int) % 2 = 1 := by omega
    simp [hx, this]
theorem low_eq {b : Nat → Int} (hb : By b) : yL b = lowR b := by unfold yL lowR; rw [and127 _ (hb 31 (by omega))]
theorem dodd_eq {b : Nat → Int} (hb : By b) : dodd b = rodd b := by
  have h := hb 31 (by omega)
  unfold dodd rodd
  by_cases h1 : 128 ≤ b 31
  · have : b 31 / 128 = 1 := by omega
    rw [this, decide_eq_true h1]; rfl
  · have : b 31 / 128 = 0 := by omega
    rw [this, decide_eq_false h1]; rfl
theorem x0N_congr {n m : Int} (h : n % PP = m % PP) : x0N n % PP = x0N m % PP := pow_same h _
theorem sq0_congr {n m : Int} (h : n % PP = m % PP) : sq0 n = sq0 m := by
  unfold sq0
  rw [mod_mul (x0N_congr h) (x0N_congr h), h]
theorem x1N_congr {i n m : Int} (h : n % PP = m % PP) : x1N i n % PP = x1N i m % PP := by
  unfold x1N
  rw [sq0_congr h]
  split
  · exact x0N_congr h
  · exact mod_mul (x0N_congr h) rfl
theorem rOk_congr {i n m : Int} (h : n % PP = m % PP) : rOk i n = rOk i m := by
  unfold rOk
  rw [mod_mul (x1N_congr h) (x1N_congr h), h]
theorem rN_congr {i n m : Int} (h : n % PP = m % PP) : rN i n % PP = rN i m % PP := by
  unfold rN rOdd
  rw [rOk_congr h, x1N_congr h]
  split
  · split
    · exact mod_sub rfl (x1N_congr h)
    · exact x1N_congr h
  · rfl
theorem q_eq {b : Nat → Int} (hb : By b) : V51 (dq b) % PP = V16 (rq b) % PP := by
  have hy : eF (dy b) = rF (ry b) := by
    unfold eF rF; rw [toF_eq]
    unfold dy ry
    rw [low_eq hb, (Fe.of _ (lowR_By hb)).2, (Re.num _ (lowR_By hb)).2]
  have hs : eF (dsq b) = rF (rsq b) := by
    show eF (mulE (dy b) (dy b)) = rF (mulR (ry b) (ry b))
    rw [eF_mul (dy_Lm hb) (dy_Lm hb), rF_mul (ry_Rn hb) (ry_Rn hb), hy]
  have h1 : eF (smL 1) = rF oneR := by rw [eF_small, toF_one, rF_one]
  have hu : eF (subE (dsq b) (smL 1)) = rF (rup b) := by
    show _ = rF (subR (rsq b) oneR)
    rw [eF_sub (dsq_Lm hb) (smL_Lm 1 (by omega)), rF_sub (rsq_Rn hb) oneR_Rn, hs, h1]
  have hd : eF (addE (mulE (dsq b) (carr (ofL dB))) (smL 1)) = rF (rdn b) := by
    show _ = rF (addR (mulR dR (rsq b)) oneR)
    rw [eF_add (lmul (dsq_Lm hb) (lof dB_By)) (smL_Lm 1 (by omega)), rF_add (rmul dR_Rn (rsq_Rn hb)) oneR_Rn, eF_mul (dsq_Lm hb) (lof dB_By), rF_mul dR_Rn (rsq_Rn hb), hs, h1, eF_d, rF_d]
    grind
  have hi : eF (invE (addE (mulE (dsq b) (carr (ofL dB))) (smL 1))) = rF (invR (rdn b)) := by
    have e1 : eF (invE (addE (mulE (dsq b) (carr (ofL dB))) (smL 1))) = toF (V51 (addE (mulE (dsq b) (carr (ofL dB))) (smL 1)) ^ (PN - 2)) := by unfold eF; rw [toF_eq]; exact (Fe.inv (n := V51 _) ⟨ladd (lmul (dsq_Lm hb) (lof dB_By)) (smL_Lm 1 (by omega)), rfl⟩).2
    have e2 : rF (invR (rdn b)) = toF (V16 (rdn b) ^ (PN - 2)) := by
      unfold rF; rw [toF_eq]
      have h := Re.pow (n := V16 (rdn b)) ⟨rdn_Rn hb, rfl⟩ (exB 255 21) 256
      rw [exp_inv] at h
      exact h.2
    rw [e1, e2, toF_eq]
    exact pow_same (toF_eq.1 hd) _
  apply toF_eq.1
  show eF (mulE _ _) = rF (mulR _ _)
  rw [eF_mul (lsub (dsq_Lm hb) (smL_Lm 1 (by omega))) (linv (ladd (lmul (dsq_Lm hb) (lof dB_By)) (smL_Lm 1 (by omega)))), rF_mul (rup_Rn hb) (rinv (rdn_Rn hb)), hu, hi]
theorem drt_eq {b : Nat → Int} (hb : By b) : drt b = rrt b := rOk_congr (q_eq hb)
theorem x0_val {b : Nat → Int} (hb : By b) : V51 (dx0 b) % PP = rN iZ (V51 (dq b)) % PP := (rtE_Fe (n := V51 (dq b)) ⟨dq_Lm hb, rfl⟩).2
theorem x0R_val {b : Nat → Int} (hb : By b) : V16 (rx0 b) % PP = rN iZ (V51 (dq b)) % PP := (rtR_Re (n := V16 (rq b)) ⟨rq_Rn hb, rfl⟩).2.trans (rN_congr (q_eq hb).symm)
theorem dz_eq {b : Nat → Int} (hb : By b) : dz b = rz b := by
  unfold dz rz
  rw [x0_val hb, x0R_val hb]
  rfl
theorem y_val {b : Nat → Int} (hb : By b) : V51 (dy b) % PP = N32 (lowR b) % PP := by unfold dy; rw [low_eq hb]; exact (Fe.of _ (lowR_By hb)).2
theorem yR_val {b : Nat → Int} (hb : By b) : V16 (ry b) % PP = N32 (lowR b) % PP := (Re.num _ (lowR_By hb)).2
theorem sOf_congr {f g : Nat → Int} (h : ∀ j, j < 32 → f j = g j) : sOf f = sOf g := by
  unfold sOf
  congr 1
  exact List.map_congr_left (fun j hj => h j (List.mem_range.1 hj))
theorem sOf_iff {f g : Nat → Int} (hf : By f) (hg : By g) : sOf f = sOf g ↔ ∀ j, j < 32 → f j = g j := by
  have cut : ∀ {f : Nat → Int}, By f → ∀ i, 0 ≤ (if i < 32 then f i else 0) ∧ (if i < 32 then f i else 0) < 256 := fun {f} hf i => by
    split
    · exact hf i (by assumption)
    · omega
  rw [sOf_congr (f := f) (g := fun i => if i < 32 then f i else 0) (fun j hj => (if_pos hj).symm), sOf_congr (f := g) (g := fun i => if i < 32 then g i else 0) (fun j hj => (if_pos hj).symm), sOf_inj _ _ (cut hf) (cut hg)]
  constructor
  · intro h j hj
    have := h j hj
    rwa [if_pos hj, if_pos hj] at this
  · intro h j hj
    rw [if_pos hj, if_pos hj]; exact h j hj
theorem str_same {f g : Nat → Int} (hf : By f) (hg : By g) : ((sOf f).toList == (sOf g).toList) = sameRow 32 f g := by
  have e : (sOf f).toList = (sOf g).toList ↔ sOf f = sOf g := by
    constructor
    · intro h
      rw [Lib.toList_data, Lib.toList_data] at h
      exact ByteArray.ext (Array.ext' h)
    · intro h; rw [h]
  rw [Bool.eq_iff_iff, beq_iff_eq, e, sOf_iff hf hg, sameRow_iff]
theorem dsame_eq {b : Nat → Int} (hb : By b) : dsame b = rsame b := by
  unfold dsame rsame
  rw [y_val hb, yR_val hb, low_eq hb, str_same (dig_By _) (lowR_By hb)]
theorem decOk_eq {b : Nat → Int} (hb : By b) : decOk b = decROk b := by
  unfold decOk decROk
  rw [dsame_eq hb, drt_eq hb, dodd_eq hb, dz_eq hb]
theorem z01 {n : Nat} [NeZero n] (d : Fin n) : 0 * 0 * d + 1 = 1 := by grind
theorem den_ne (y : Fin PN) : y * y * dF + 1 ≠ 0 := fun e => by
  obtain ⟨i, hi⟩ := fld.im
  by_cases h : y = 0
  · refine fld.one ?_
    rw [h, z01] at e
    exact e
  · exact fld.no_sq (a := i) (b := y) h (by rw [hi]; grind)
theorem dq_F {b : Nat → Int} (hb : By b) : eF (dq b) * (eF (dy b) * eF (dy b) * dF + 1) = eF (dy b) * eF (dy b) - 1 := by
  have hs : eF (dsq b) = eF (dy b) * eF (dy b) := eF_mul (dy_Lm hb) (dy_Lm hb)
  have h1 : eF (smL 1) = 1 := by rw [eF_small, toF_one]
  have lu := lsub (dsq_Lm hb) (smL_Lm 1 (by omega))
  have ld := ladd (lmul (dsq_Lm hb) (lof dB_By)) (smL_Lm 1 (by omega))
  have hu : eF (subE (dsq b) (smL 1)) = eF (dy b) * eF (dy b) - 1 := by rw [eF_sub (dsq_Lm hb) (smL_Lm 1 (by omega)), hs, h1]
  have hd : eF (addE (mulE (dsq b) (carr (ofL dB))) (smL 1)) = eF (dy b) * eF (dy b) * dF + 1 := by rw [eF_add (lmul (dsq_Lm hb) (lof dB_By)) (smL_Lm 1 (by omega)), eF_mul (dsq_Lm hb) (lof dB_By), hs, h1, eF_d]
  have hi := eF_inv ld (by rw [hd]; exact den_ne _)
  have e : eF (dq b) = eF (subE (dsq b) (smL 1)) * eF (invE (addE (mulE (dsq b) (carr (ofL dB))) (smL 1))) := eF_mul lu (linv ld)
  rw [e, hu]
  rw [hd] at hi
  generalize eF (invE (addE (mulE (dsq b) (carr (ofL dB))) (smL 1))) = v at hi ⊢
  grind
theorem x0_F {b : Nat → Int} (hb : By b) : eF (dx0 b) = toF (rN iZ (V51 (dq b))) := by unfold eF; rw [toF_eq]; exact x0_val hb
theorem x0_sq {b : Nat → Int} (hb : By b) (h : drt b = true) : eF (dx0 b) * eF (dx0 b) = eF (dq b) := by
  rw [x0_F hb, ← toF_mul]
  unfold eF
  rw [toF_eq]
  exact rN_sq h
theorem dec_on {b : Nat → Int} (hb : By b) (h : drt b = true) : OnC dF (eF (dx0 b)) (eF (dy b)) := by
  have h1 := x0_sq hb h
  have h2 := dq_F hb
  unfold OnC
  rw [← h1] at h2
  generalize eF (dx0 b) = x at h2 ⊢
  generalize eF (dy b) = y at h2 ⊢
  grind
theorem dx_F {b : Nat → Int} (hb : By b) : eF (dx b) = if dodd b then - eF (dx0 b) else eF (dx0 b) := by
  unfold dx
  split
  · exact eF_neg (dx0_Lm hb)
  · rfl
theorem rx_F {b : Nat → Int} (hb : By b) : rF (rx b) = if dodd b then - rF (rx0 b) else rF (rx0 b) := by
  unfold rx
  rw [dodd_eq hb]
  split
  · rw [rF_sub Re.zero.1 (rx0_Rn hb), rF_zero]; exact zsub _
  · rfl
theorem dx_on {b : Nat → Int} (hb : By b) (h : drt b = true) : OnC dF (eF (dx b)) (eF (dy b)) := by
  rw [dx_F hb]
  split
  · exact (dec_on hb h).neg
  · exact dec_on hb h
theorem rx_dx {b : Nat → Int} (hb : By b) : rF (rx b) = eF (dx b) := by
  rw [rx_F hb, dx_F hb]
  have : rF (rx0 b) = eF (dx0 b) := by unfold rF eF; rw [toF_eq, x0R_val hb, x0_val hb]
  rw [this]
theorem ry_dy {b : Nat → Int} (hb : By b) : rF (ry b) = eF (dy b) := by unfold rF eF; rw [toF_eq, y_val hb, yR_val hb]
theorem decOk_parts {b : Nat → Int} (h : decOk b = true) : dsame b = true ∧ drt b = true ∧ (dodd b = true → dz b = false) := by
  unfold decOk at h
  revert h
  cases dsame b <;> cases drt b <;> cases dodd b <;> cases dz b <;> simp
theorem neg_mod {v p : Int} (hp : 0 < p) (h : v % p ≠ 0) : (0 - v) % p = p - v % p := by
  have e : 0 - v = (p - v % p) + p * (-(v / p) - 1) := by
    have := Int.mul_ediv_add_emod v p
    rw [Int.mul_sub, Int.mul_neg, Int.mul_one]
    omega
  have h0 := Int.emod_nonneg v (show p ≠ 0 by omega)
  have h1 := Int.emod_lt_of_pos v hp
  rw [e, Int.add_mul_emod_self_left]
  exact Int.emod_eq_of_lt (by omega) (by omega)
theorem PP_odd : PP % 2 = 1 := by decide
theorem PP_pos : 0 < PP := by decide
theorem neg_par (v : Int) (h0 : ¬ v % PP = 0) (he : ¬ v % PP % 2 = 1) : (0 - v) % PP % 2 = 1 := by
  rw [neg_mod PP_pos h0]
  have := PP_odd
  generalize v % PP = r at *
  generalize PP = p at *
  omega
theorem neg_par2 (v : Int) (h1 : 0 < v) (h2 : v < PP) (he : v % 2 = 1) : ¬ (0 - v) % PP % 2 = 1 := by
  have e : v % PP = v := Int.emod_eq_of_lt (Int.le_of_lt h1) h2
  rw [neg_mod PP_pos (by rw [e]; omega), e]
  have := PP_odd
  generalize PP = p at *
  omega
theorem neg_par3 (v : Int) (h1 : 0 < v) (h2 : v < PP) (he : ¬ v % 2 = 1) : (0 - v) % PP % 2 = 1 := by
  have e : v % PP = v := Int.emod_eq_of_lt (Int.le_of_lt h1) h2
  exact neg_par v (by rw [e]; omega) (by rw [e]; exact he)
theorem odd_cast {n : Nat} {x : Int} (h : (n : Int) = x) : (n % 2 = 1) ↔ x % 2 = 1 := by subst h; omega
theorem par {b : Nat → Int} (hb : By b) (h : decOk b = true) : ((eF (dx b)).val % 2 = 1) = (dodd b = true) := by
  obtain ⟨h1, h2, h3⟩ := decOk_parts h
  have he := rN_even iZ (V51 (dq b))
  rw [← x0_val hb] at he
  have he := of_decide_eq_false he
  have hx := dx_F hb
  cases hd : dodd b with
  | false =>
    rw [hd] at hx
    rw [show eF (dx b) = eF (dx0 b) from hx]
    have hv : ((eF (dx0 b)).val : Int) = V51 (dx0 b) % PP := toF_val _
    rw [odd_cast hv]
    exact propext ⟨fun c => absurd c he, fun c => absurd c (by decide)⟩
  | true =>
    rw [hd] at hx
    have hz := h3 hd
    unfold dz at hz
    have hz := of_decide_eq_false hz
    have e : eF (dx b) = toF (0 - V51 (dx0 b)) := by
      rw [toF_sub, toF_zero, zsub]
      exact hx
    rw [e]
    have hv : ((toF (0 - V51 (dx0 b))).val : Int) = (0 - V51 (dx0 b)) % PP := toF_val _
    have h0 : V51 (fun _ => 0) % PP = 0 := by decide
    rw [h0] at hz
    rw [odd_cast hv]
    exact propext ⟨fun _ => rfl, fun _ => neg_par _ hz he⟩
theorem dec_y {b : Nat → Int} (hb : By b) (h : decOk b = true) : ∀ j, j < 32 → dig 256 ((eF (dy b)).val : Int) j = yL b j := by
  obtain ⟨h1, h2, h3⟩ := decOk_parts h
  unfold dsame at h1
  rw [sameRow_iff] at h1
  intro j hj
  rw [show ((eF (dy b)).val : Int) = V51 (dy b) % PP from toF_val _]
  exact h1 j hj
def decPt (b : Nat → Int) (hb : By b) (h : decOk b = true) : Pt dF := ⟨(eF (dx b), eF (dy b)), dx_on hb (decOk_parts h).2.1⟩
theorem dec_prep {b : Nat → Int} (hb : By b) (h : decOk b = true) : PRep (decP b) (decPt b hb h) := by
  rw [decP_y h]
  have hl := pl_pt (dx_Lm hb) (dy_Lm hb) (smL_Lm 1 (by omega)) (lmul (dx_Lm hb) (dy_Lm hb))
  refine prep_pt hl ?_
  rw [eF_small, toF_one, eF_mul (dx_Lm hb) (dy_Lm hb)]
  refine ⟨fld.one, ?_, ?_, ?_⟩
  · show eF (dx b) = eF (dx b) * 1; grind
  · show eF (dy b) = eF (dy b) * 1; grind
  · show eF (dx b) * eF (dy b) = eF (dx b) * eF (dy b) * 1; grind
theorem dec_rrep {b : Nat → Int} (hb : By b) (h : decOk b = true) : RRep (decRP b) (decPt b hb h) := by
  have h' : decROk b = true := by rw [← decOk_eq hb]; exact h
  rw [decRP_y h']
  have hl := pr_pr (rx_Rn hb) (ry_Rn hb) oneR_Rn (rmul (rx_Rn hb) (ry_Rn hb))
  refine rrep_pr hl ?_
  rw [rF_one, rF_mul (rx_Rn hb) (ry_Rn hb), rx_dx hb, ry_dy hb]
  refine ⟨fld.one, ?_, ?_, ?_⟩
  · show eF (dx b) = eF (dx b) * 1; grind
  · show eF (dy b) = eF (dy b) * 1; grind
  · show eF (dx b) * eF (dy b) = eF (dx b) * eF (dy b) * 1; grind
theorem dec_bytes {b : Nat → Int} (hb : By b) (h : decOk b = true) : ∀ j, j < 32 → ptB (decPt b hb h) j = b j := by
  intro j hj
  have hp := par hb h
  have hy := dec_y hb h
  have h31 := hb 31 (by omega)
  have hl : yL b 31 = b 31 % 128 := by rw [low_eq hb]; rfl
  have hlj : j ≠ 31 → yL b j = b j := fun e => if_neg e
  unfold ptB decPt
  show (if (eF (dx b)).val % 2 = 1 then upd (dig 256 ((eF (dy b)).val : Int)) 31 (dig 256 ((eF (dy b)).val : Int) 31 + 128) else dig 256 ((eF (dy b)).val : Int)) j = b j
  have hdd : (dodd b = true) ↔ b 31 / 128 = 1 := by unfold dodd; exact beq_iff_eq
  by_cases hd : dodd b = true
  · rw [if_pos (by rw [hp]; exact hd)]
    have := hdd.1 hd
    by_cases e : j = 31
    · subst e
      show (if 31 = 31 then _ else _) = _
      rw [if_pos rfl, hy 31 (by omega), hl]
      omega
    · show (if j = 31 then _ else _) = _
      rw [if_neg e, hy j hj, hlj e]
  · rw [if_neg (by rw [hp]; exact hd), hy j hj]
    by_cases e : j = 31
    · subst e
      have : ¬ b 31 / 128 = 1 := fun e => hd (hdd.2 e)
      rw [hl]; omega
    · exact hlj e
theorem ptB_By (P : Pt dF) : By (ptB P) := fun j hj => by
  have h := dig_By (P.1.2.val : Int)
  have ht := top_lt P.1.2
  unfold ptB
  split
  · show 0 ≤ (if j = 31 then _ else _) ∧ (if j = 31 then _ else _) < 256
    split
    · omega
    · exact h j hj
  · exact h j hj
theorem dig_inj {a b : Fin PN} (h : ∀ j, j < 32 → dig 256 (a.val : Int) j = dig 256 (b.val : Int) j) : a = b := by
  have hv : N32 (dig 256 (a.val : Int)) = N32 (dig 256 (b.val : Int)) := val_congr 256 _ _ 32 h
  have hb : ∀ a : Fin PN, N32 (dig 256 (a.val : Int)) = (a.val : Int) := fun a => N32_dig _ ⟨Int.natCast_nonneg _, by
    have := a.2
    generalize a.val = n at this ⊢
    unfold PN at this
    omega⟩
  rw [hb, hb] at hv
  exact Fin.ext (Int.ofNat.inj hv)
theorem neg_odd {a : Fin PN} (h : a ≠ 0) : ((-a).val % 2 = 1) ↔ ¬ a.val % 2 = 1 := by
  have e : -a = toF (0 - (a.val : Int)) := by rw [toF_sub, toF_zero, toF_surj, zsub]
  have hv : ((-a).val : Int) = (0 - (a.val : Int)) % PP := by rw [e]; exact toF_val _
  have h1 : (0 : Int) < (a.val : Int) := by
    have : a.val ≠ 0 := fun c => h (Fin.ext c)
    generalize a.val = n at this ⊢
    omega
  have h2 : (a.val : Int) < PP := by
    have := a.2
    rw [← PN_PP]
    exact Int.ofNat_lt.2 this
  rw [odd_cast hv, odd_cast (n := a.val) rfl]
  constructor
  · intro c d; exact neg_par2 _ h1 h2 d c
  · intro c; exact neg_par3 _ h1 h2 c
theorem ptB_31 (P : Pt dF) : ptB P 31 = if P.1.1.val % 2 = 1 then dig 256 (P.1.2.val : Int) 31 + 128 else dig 256 (P.1.2.val : Int) 31 := by
  unfold ptB
  split
  · exact if_pos rfl
  · rfl
theorem ptB_lo (P : Pt dF) {j : Nat} (h : j ≠ 31) : ptB P j = dig 256 (P.1.2.val : Int) j := by
  unfold ptB
  split
  · exact if_neg h
  · rfl
theorem sq_eq {P Q : Pt dF} (hy : P.1.2 = Q.1.2) : P.1.1 = Q.1.1 ∨ P.1.1 = -Q.1.1 := by
  have c1 := P.2
  have c2 := Q.2
  unfold OnC at c1 c2
  rw [hy] at c1
  have hsq : P.1.1 * P.1.1 = Q.1.1 * Q.1.1 := by
    refine fld.cancel (den_ne Q.1.2) ?_
    generalize P.1.1 = x at c1 ⊢
    generalize Q.1.1 = u at c2 ⊢
    generalize Q.1.2 = y at c1 c2 ⊢
    grind
  clear c1 c2
  generalize P.1.1 = x at hsq ⊢
  generalize Q.1.1 = u at hsq ⊢
  have h0 : (x - u) * (x + u) = 0 := by grind
  rcases fld.dom h0 with e | e
  · left; grind
  · right; grind
theorem ptB_inj {P Q : Pt dF} (h : ∀ j, j < 32 → ptB P j = ptB Q j) : P = Q := by
  have hP := top_lt P.1.2
  have hQ := top_lt Q.1.2
  have h31 := h 31 (by decide)
  rw [ptB_31, ptB_31] at h31
  have hx : (P.1.1.val % 2 = 1) ↔ (Q.1.1.val % 2 = 1) := by
    generalize dig 256 (P.1.2.val : Int) 31 = u at *
    generalize dig 256 (Q.1.2.val : Int) 31 = v at *
    by_cases a : P.1.1.val % 2 = 1 <;> by_cases b : Q.1.1.val % 2 = 1
    · exact ⟨fun _ => b, fun _ => a⟩
    · rw [if_pos a, if_neg b] at h31; clear h; omega
    · rw [if_neg a, if_pos b] at h31; clear h; omega
    · exact ⟨fun c => absurd c a, fun c => absurd c b⟩
  have hy : P.1.2 = Q.1.2 := dig_inj (fun j hj => by
    by_cases e : j = 31
    · subst e
      by_cases a : P.1.1.val % 2 = 1
      · rw [if_pos a, if_pos (hx.1 a)] at h31; exact (Int.add_left_inj 128).1 h31
      · rw [if_neg a, if_neg (fun c => a (hx.2 c))] at h31; exact h31
    · rw [← ptB_lo P e, ← ptB_lo Q e]; exact h j hj)
  refine Pt.ext ?_ hy
  rcases sq_eq hy with e | e
  · exact e
  · by_cases z : Q.1.1 = 0
    · rw [z] at e ⊢; rw [e]; exact (by decide : -(0 : Fin PN) = 0)
    · exfalso
      rw [e] at hx
      have := neg_odd z
      by_cases c : Q.1.1.val % 2 = 1
      · exact this.1 (hx.2 c) c
      · exact c (hx.1 (this.2 c))
theorem dec_of {b : Nat → Int} (hb : By b) {P : Pt dF} (h : ∀ j, j < 32 → b j = ptB P j) : ∃ ok : decOk b = true, decPt b hb ok = P := by
  have ht := top_lt P.1.2
  have h31 : b 31 = if P.1.1.val % 2 = 1 then dig 256 (P.1.2.val : Int) 31 + 128 else dig 256 (P.1.2.val : Int) 31 := by rw [h 31 (by decide), ptB_31]
  have hlow : ∀ j, j < 32 → lowR b j = dig 256 (P.1.2.val : Int) j := by
    intro j hj
    unfold lowR upd
    by_cases e : j = 31
    · subst e
      rw [if_pos rfl, h31]
      clear h h31
      generalize dig 256 (P.1.2.val : Int) 31 = u at *
      split <;> omega
    · rw [if_neg e, h j hj, ptB_lo P e]
  have hn : N32 (lowR b) = (P.1.2.val : Int) := by
    rw [show N32 (lowR b) = N32 (dig 256 (P.1.2.val : Int)) from val_congr 256 _ _ 32 hlow]
    exact N32_dig _ ⟨Int.natCast_nonneg _, by
      have := P.1.2.2
      generalize P.1.2.val = n at this ⊢
      unfold PN at this
      omega⟩
  have hy : V51 (dy b) % PP = (P.1.2.val : Int) := by
    rw [y_val hb, hn]
    exact Int.emod_eq_of_lt (Int.natCast_nonneg _) (by rw [← PN_PP]; exact Int.ofNat_lt.2 P.1.2.2)
  have hyF : eF (dy b) = P.1.2 := by
    have e : (((eF (dy b)).val : Int)) = V51 (dy b) % PP := toF_val _
    exact Fin.ext (Int.ofNat.inj (e.trans hy))
  have hs : dsame b = true := by
    unfold dsame
    rw [hy, low_eq hb, sameRow_iff]
    intro j hj
    exact (hlow j hj).symm
  have hq : eF (dq b) = P.1.1 * P.1.1 := by
    have hd := dq_F hb
    rw [hyF] at hd
    have c := P.2
    unfold OnC at c
    refine fld.cancel (den_ne P.1.2) (hd.trans ?_)
    generalize P.1.1 = x at c ⊢
    generalize P.1.2 = y at c ⊢
    grind
  have hr : drt b = true := by
    have e := hq
    rw [← toF_surj P.1.1, ← toF_mul] at e
    unfold eF at e
    rw [toF_eq] at e
    unfold drt
    rw [rOk_congr e]
    exact rOk_sq iZ iZ_sq _
  have hdd : (dodd b = true) ↔ b 31 / 128 = 1 := by unfold dodd; exact beq_iff_eq
  have ho : dodd b = true → P.1.1.val % 2 = 1 := by
    intro e
    have e := hdd.1 e
    rw [h31] at e
    by_cases c : P.1.1.val % 2 = 1
    · exact c
    · rw [if_neg c] at e
      clear h h31 hlow
      generalize dig 256 (P.1.2.val : Int) 31 = u at *
      omega
  have hz : dodd b = true → dz b = false := by
    intro e
    have e := ho e
    unfold dz
    refine decide_eq_false (fun c => ?_)
    have c0 : eF (dx0 b) = 0 := by
      have : eF (dx0 b) = eF (fun _ => 0) := by unfold eF; rw [toF_eq]; exact c
      rw [this, eF_zero]
    have hx := x0_sq hb hr
    rw [c0, hq] at hx
    have hx : P.1.1 * P.1.1 = 0 := by rw [← hx]; grind
    have : P.1.1 = 0 := by rcases fld.dom hx with c | c <;> exact c
    rw [this] at e
    exact absurd e (by decide)
  have ok : decOk b = true := by
    unfold decOk
    rw [hs, hr]
    cases hd : dodd b with
    | false => rfl
    | true => rw [hz hd]; rfl
  refine ⟨ok, ptB_inj (fun j hj => ?_)⟩
  rw [dec_bytes hb ok j hj, h j hj]
def bxN : Nat := 15112221349535400772501151409588531511454012693041857206046113283949847762202
def byN : Nat := 46316835694926478169428394003475163141307993866256225615783033603165251855960
theorem base_on : OnC dF (toF (bxN : Int)) (toF (byN : Int)) := by
  have e : ((byN : Int) * byN - (bxN : Int) * bxN) % PP = (1 + (dN : Int) * bxN * bxN * byN * byN) % PP := by decide +kernel
  have e := toF_eq.2 e
  rw [toF_sub, toF_mul, toF_mul, toF_add, toF_mul, toF_mul, toF_mul, toF_mul, toF_one] at e
  exact e
def basePt : Pt dF := ⟨(toF (bxN : Int), toF (byN : Int)), base_on⟩
theorem base_bytes : ∀ j, j < 32 → bBf 32 j = ptB basePt j := by
  have : ∀ k : Fin 32, bBf 32 k.val = ptB basePt k.val := by decide +kernel
  exact fun j hj => this ⟨j, hj⟩
theorem base_prep : PRep baseP basePt := by
  obtain ⟨ok, e⟩ := dec_of (bBf_By 32) base_bytes
  rw [← e]
  exact dec_prep (bBf_By 32) ok
theorem base_xy : basePt.1 = (toF (bxN : Int), toF (byN : Int)) := rfl
def frc {α : Type} (n : Nat) (k : Nat → α) : α := match n with | 0 => k 0 | m + 1 => k (m + 1)
theorem frc_eq {α : Type} (n : Nat) (k : Nat → α) : frc n k = k n := by cases n <;> rfl
def nsb (a b : Nat) : Nat := a + (PN - b % PN)
theorem toF_nsb (a b : Nat) : toF ((nsb a b : Nat) : Int) = toF (a : Int) - toF (b : Int) := by
  have h : b % PN < PN := Nat.mod_lt _ (by decide)
  have e : ((nsb a b : Nat) : Int) = (a : Int) + ((PN : Int) - ((b : Int) % PN)) := by unfold nsb; omega
  rw [e, PN_PP]
  have e2 : toF ((a : Int) + (PP - (b : Int) % PP)) = toF ((a : Int) - (b : Int)) := by
    rw [toF_eq]
    rw [show (a : Int) + (PP - (b : Int) % PP) = PP + ((a : Int) - (b : Int) % PP) by omega, Int.add_emod_left]
    rw [Int.sub_emod (a : Int) ((b : Int) % PP), Int.emod_emod_of_dvd _ (Int.dvd_refl _), ← Int.sub_emod]
  rw [e2, toF_sub]
theorem toF_nmod (a : Nat) : toF ((a % PN : Nat) : Int) = toF (a : Int) := by
  rw [toF_eq, Int.natCast_emod, PN_PP, Int.emod_emod_of_dvd _ (Int.dvd_refl _)]
theorem toF_nmul (a b : Nat) : toF ((a * b % PN : Nat) : Int) = toF (a : Int) * toF (b : Int) := by rw [toF_nmod, Int.natCast_mul, toF_mul]
theorem toF_nadd (a b : Nat) : toF ((a + b : Nat) : Int) = toF (a : Int) + toF (b : Int) := by rw [Int.natCast_add, toF_add]
def nad {α : Type} (x1 y1 z1 t1 x2 y2 z2 t2 : Nat) (k : Nat → Nat → Nat → Nat → α) : α :=
  frc (nsb y1 x1 * nsb y2 x2 % PN) fun A => frc ((y1 + x1) * (y2 + x2) % PN) fun B => frc (t1 * t2 % PN * dN % PN * 2 % PN) fun C => frc (z1 * z2 % PN * 2 % PN) fun E =>
  frc (nsb B A) fun F => frc (nsb E C) fun G => frc (E + C) fun H => frc (B + A) fun I =>
  frc (F * G % PN) fun X => frc (H * I % PN) fun Y => frc (G * H % PN) fun Z => frc (F * I % PN) fun T => k X Y Z T
def RepN (X Y Z T : Nat) (P : Pt dF) : Prop := Rep dF (toF (X : Int)) (toF (Y : Int)) (toF (Z : Int)) (toF (T : Int)) P
theorem nad_rep {α : Type} {x1 y1 z1 t1 x2 y2 z2 t2 : Nat} {P Q : Pt dF} (h1 : RepN x1 y1 z1 t1 P) (h2 : RepN x2 y2 z2 t2 Q) (k : Nat → Nat → Nat → Nat → α) :
    ∃ X Y Z T, nad x1 y1 z1 t1 x2 y2 z2 t2 k = k X Y Z T ∧ RepN X Y Z T (P.add fld Q) := by
  unfold nad
  simp only [frc_eq]
  refine ⟨_, _, _, _, rfl, ?_⟩
  unfold RepN
  simp only [toF_nmul, toF_nsb, toF_nadd]
  refine Rep.add fld h1 h2 _ _ _ _ _ _ _ _ rfl ?_ ?_ ?_ rfl rfl rfl rfl
  · rfl
  · show _ * toF (dN : Int) * toF ((2 : Nat) : Int) = _ * dF * 2
    rw [show ((2 : Nat) : Int) = 2 from rfl, two_is]; rfl
  · show _ * toF ((2 : Nat) : Int) = _ * 2
    rw [show ((2 : Nat) : Int) = 2 from rfl, two_is]
def ngo (n : Nat) (x1 y1 z1 t1 : Nat) : Nat → Nat → Nat → Nat → Nat → Nat × Nat × Nat × Nat
  | 0, x, y, z, t => (x, y, z, t)
  | f + 1, x, y, z, t => nad x y z t x y z t fun x y z t => bif (n / 2 ^ f % 2).beq 1 then nad x y z t x1 y1 z1 t1 fun x y z t => ngo n x1 y1 z1 t1 f x y z t else ngo n x1 y1 z1 t1 f x y z t
theorem ngo_rep {n x1 y1 z1 t1 : Nat} {P : Pt dF} (h1 : RepN x1 y1 z1 t1 P) : ∀ f x y z t m, RepN x y z t (P.mul fld m) →
    RepN (ngo n x1 y1 z1 t1 f x y z t).1 (ngo n x1 y1 z1 t1 f x y z t).2.1 (ngo n x1 y1 z1 t1 f x y z t).2.2.1 (ngo n x1 y1 z1 t1 f x y z t).2.2.2 (P.mul fld (m * 2 ^ f + n % 2 ^ f))
  | 0, x, y, z, t, m, h => by rw [Nat.pow_zero, Nat.mul_one, Nat.mod_one, Nat.add_zero]; exact h
  | f + 1, x, y, z, t, m, h => by
    unfold ngo
    obtain ⟨X, Y, Z, T, e, hr⟩ := nad_rep h h (fun x y z t => bif (n / 2 ^ f % 2).beq 1 then nad x y z t x1 y1 z1 t1 fun x y z t => ngo n x1 y1 z1 t1 f x y z t else ngo n x1 y1 z1 t1 f x y z t)
    rw [e]
    rw [← Pt.mul_add] at hr
    have hm : n % 2 ^ (f + 1) = n / 2 ^ f % 2 * 2 ^ f + n % 2 ^ f := by
      rw [Nat.pow_succ, Nat.mod_mul, Nat.mul_comm (2 ^ f) (n / 2 ^ f % 2), Nat.add_comm]
    cases hb : (n / 2 ^ f % 2).beq 1 with
    | true =>
      have hb1 : n / 2 ^ f % 2 = 1 := Nat.eq_of_beq_eq_true hb
      show RepN (nad X Y Z T x1 y1 z1 t1 fun x y z t => ngo n x1 y1 z1 t1 f x y z t).1 (nad X Y Z T x1 y1 z1 t1 fun x y z t => ngo n x1 y1 z1 t1 f x y z t).2.1 (nad X Y Z T x1 y1 z1 t1 fun x y z t => ngo n x1 y1 z1 t1 f x y z t).2.2.1 (nad X Y Z T x1 y1 z1 t1 fun x y z t => ngo n x1 y1 z1 t1 f x y z t).2.2.2 _
      obtain ⟨X', Y', Z', T', e', hr'⟩ := nad_rep hr h1 (fun x y z t => ngo n x1 y1 z1 t1 f x y z t)
      rw [e']
      have := ngo_rep (n := n) h1 f X' Y' Z' T' (m + m + 1) hr'
      rw [hm, hb1, show m * 2 ^ (f + 1) + (1 * 2 ^ f + n % 2 ^ f) = (m + m + 1) * 2 ^ f + n % 2 ^ f by rw [Nat.pow_succ, ← Nat.mul_assoc, Nat.add_mul, Nat.add_mul]; omega]
      exact this
    | false =>
      have hb0 : n / 2 ^ f % 2 = 0 := by
        have h1 : n / 2 ^ f % 2 ≠ 1 := fun e => by rw [e] at hb; exact absurd hb (by decide)
        omega
      have := ngo_rep (n := n) h1 f X Y Z T (m + m) hr
      rw [hm, hb0, show m * 2 ^ (f + 1) + (0 * 2 ^ f + n % 2 ^ f) = (m + m) * 2 ^ f + n % 2 ^ f by rw [Nat.pow_succ, ← Nat.mul_assoc, Nat.add_mul]; omega]
      exact this
theorem base_repN : RepN bxN byN 1 (bxN * byN % PN) basePt := by
  unfold RepN Rep
  rw [base_xy, toF_nmul, show ((1 : Nat) : Int) = 1 from rfl, toF_one]
  refine ⟨fld.one, ?_, ?_, ?_⟩
  · show toF (bxN : Int) = toF (bxN : Int) * 1; grind
  · show toF (byN : Int) = toF (byN : Int) * 1; grind
  · show toF (bxN : Int) * toF (byN : Int) = toF (bxN : Int) * toF (byN : Int) * 1; grind
theorem zero_repN : RepN 0 1 1 0 (Pt.zero dF) := by
  unfold RepN Rep
  rw [show ((1 : Nat) : Int) = 1 from rfl, show ((0 : Nat) : Int) = 0 from rfl, toF_one, toF_zero]
  exact ⟨fld.one, by show (0 : Fin PN) = 0 * 1; grind, by show (1 : Fin PN) = 1 * 1; grind, by show (0 : Fin PN) = 0 * 1 * 1; grind⟩
end Go.Proofs.YtbmnkchcekacfaaDoor.P
end

section
namespace Go.Proofs.YtbmnkchcekacfaaDoor.P
set_option linter.unusedVariables false
set_option linter.unusedSimpArgs false
open Go.RowKit Go.ChangeShapes Go.WideShapes Go.Proofs.YtbmnkchcekacfaaDoorW.PrintWords Go.Proofs.YtbmnkchcekacfaaDoorW.PrintLast Go.Proofs.YtbmnkchcekacfaaDoorW.PrintMore
open Go.Proofs.YtbmnkchcekacfaaDoor.P.Fd
theorem TabD.to {w w' : World} (h : TabD w) (hb : Below w.heap.size w w') : TabD w' := h.below hb h.lt
theorem add_as {F H S : Nat → Int} (h : addP F H = S) (w : World) (hT : TabD w) (hF : PL F) (hH : PL H) : Calls Tryd.prog 26 #[.agg (FR .u64 20 F), .agg (FR .u64 20 H)] w fun e w' => e = .returned (.agg (FR .u64 20 S)) ∧ Below w.heap.size w w' := by rw [← h]; exact add_pt F H w hT hF hH
theorem ptneg_as {F S : Nat → Int} (h : negP F = S) (w : World) (hF : PL F) : Calls Tryd.prog 27 #[.agg (FR .u64 20 F)] w fun e w' => e = .returned (.agg (FR .u64 20 S)) ∧ Below w.heap.size w w' := by rw [← h]; exact neg_pt F w hF
theorem mul_as {F z S : Nat → Int} (h : mulP F z = S) (w : World) (hT : TabD w) (hF : PL F) (hz : By z) : Calls Tryd.prog 18 #[.agg (FR .u64 20 F), .agg (FR .u8 32 z)] w fun e w' => e = .returned (.agg (FR .u64 20 S)) ∧ Below w.heap.size w w' := by rw [← h]; exact mul_pt F z w hT hF hz
theorem base_as {S : Nat → Int} (h : baseP = S) (w : World) (hT : TabD w) : Calls Tryd.prog 17 #[] w fun e w' => e = .returned (.agg (FR .u64 20 S)) ∧ Below w.heap.size w w' := by rw [← h]; exact base_pt w hT
theorem bytes_as {F S : Nat → Int} (h : bytesP F = S) (w : World) (hF : PL F) : Calls Tryd.prog 19 #[.agg (FR .u64 20 F)] w fun e w' => e = .returned (.agg (FR .u8 32 S)) ∧ Below w.heap.size w w' := by rw [← h]; exact bytes_pt F w hF
theorem dec_as {b S : Nat → Int} {r : Bool} (h : decP b = S) (hr : decOk b = r) (w : World) (hT : TabD w) (hb : By b) : Calls Tryd.prog 24 #[.agg (FR .u8 32 b)] w fun e w' => e = .returned (.tuple #[.agg (FR .u64 20 S), .bool r]) ∧ Below w.heap.size w w' := by rw [← h, ← hr]; exact decode_pt b w hT hb
theorem decR_as {b S : Nat → Int} {r : Bool} (h : decRP b = S) (hr : decROk b = r) (w : World) (hb : By b) : Calls Tryd.prog 28 #[.string (sOf b)] w fun e w' => e = .returned (.tuple #[.agg (FR .i64 64 S), .bool r]) ∧ Below w.heap.size w w' := by rw [← h, ← hr]; exact decode_pr b w hb
theorem addR_as {F H S : Nat → Int} (h : addRP F H = S) (w : World) (hF : PR F) (hH : PR H) : Calls Tryd.prog 32 #[.agg (FR .i64 64 F), .agg (FR .i64 64 H)] w fun e w' => e = .returned (.agg (FR .i64 64 S)) ∧ Below w.heap.size w w' := by rw [← h]; exact add_pr F H w hF hH
theorem negR_as {F S : Nat → Int} (h : negRP F = S) (w : World) (hF : PR F) : Calls Tryd.prog 31 #[.agg (FR .i64 64 F)] w fun e w' => e = .returned (.agg (FR .i64 64 S)) ∧ Below w.heap.size w w' := by rw [← h]; exact neg_pr F w hF
theorem mulR_as {F z S : Nat → Int} (h : mulRP F z = S) (w : World) (hF : PR F) (hz : By z) : Calls Tryd.prog 22 #[.agg (FR .i64 64 F), .string (sOf z)] w fun e w' => e = .returned (.agg (FR .i64 64 S)) ∧ Below w.heap.size w w' := by rw [← h]; exact mul_pr F z w hF hz
theorem PRep.By {F : Nat → Int} {P : Pt dF} (h : PRep F P) : Go.Proofs.YtbmnkchcekacfaaDoor.P.Fd.By (bytesP F) := by rw [h.bytes]; exact ptB_By P
theorem eqbool_run (a b : Bool) {r : Bool} (h : (a == b) = r) (w : World) (p q : Operand) : (do eqGuard .eql 4 p q (.bool a) (.bool b); binOp .eql 4 (.bool a) (.bool b) : Sem Value).run Tryd.prog w = .ok (.bool r) w := by subst h; go_simp
end Go.Proofs.YtbmnkchcekacfaaDoor.P
end

section
namespace Go.Proofs.YtbmnkchcekacfaaDoor.P
set_option linter.unusedVariables false
set_option linter.unusedSimpArgs false
open Go.RowKit Go.Proofs.YtbmnkchcekacfaaDoorW.PrintWords Go.Proofs.YtbmnkchcekacfaaDoorW.PrintLast Go.Proofs.YtbmnkchcekacfaaDoorW.PrintMore
attribute [local go_sem] setCell_drewN
theorem infoNum : (Tryd.prog.info? 96).map (·.size) = some 5 := by kernel_rfl
def lexN (f g : Nat → Int) : Nat → Bool
  | 0 => false
  | j + 1 => if f j = g j then lexN f g j else decide (f j < g j)
theorem lexN_val (B : Int) (hB : 0 < B) (f g : Nat → Int) : ∀ n, (∀ j, j < n → 0 ≤ f j ∧ f j < B) → (∀ j, j < n → 0 ≤ g j ∧ g j < B) → lexN f g n = decide (val B f n < val B g n)
  | 0, _, _ => by simp [lexN, val]
  | n + 1, hf, hg => by
    have ih := lexN_val B hB f g n (fun j hj => hf j (by omega)) (fun j hj => hg j (by omega))
    have b1 := val_b B hB f n (fun j hj => hf j (by omega))
    have b2 := val_b B hB g n (fun j hj => hg j (by omega))
    have hp := pow_pos' B hB n
    rw [lexN, val, val]
    by_cases he : f n = g n
    · rw [if_pos he, ih, he]
      congr 1
      apply propext
      omega
    · rw [if_neg he]
      congr 1
      apply propext
      constructor
      · intro hl
        have : (f n + 1) * B ^ n ≤ g n * B ^ n := Int.mul_le_mul_of_nonneg_right (by omega) (by omega)
        have e : (f n + 1) * B ^ n = f n * B ^ n + B ^ n := by rw [Int.add_mul, Int.one_mul]
        omega
      · intro hl
        rcases Int.lt_or_gt_of_ne he with hlt | hgt
        · exact hlt
        · exfalso
          have : (g n + 1) * B ^ n ≤ f n * B ^ n := Int.mul_le_mul_of_nonneg_right (by omega) (by omega)
          have e : (g n + 1) * B ^ n = g n * B ^ n + B ^ n := by rw [Int.add_mul, Int.one_mul]
          omega
def LessRel (f g : Nat → Int) (w : World) (v5 : Value) (wr : World) : Prop :=
  ∃ (i : Nat), i ≤ 5 ∧ v5 = .int .i64 ((i : Int) - 1) ∧ lexN f g i = lexN f g 5 ∧ Below w.heap.size w wr ∧ Row wr w.heap.size .u64 5 f 96 ∧ Row wr (w.heap.size + 1) .u64 5 g 96
theorem less_calls (f g : Nat → Int) (w : World) :
    Calls Tryd.prog 86 #[.agg (FR .u64 5 f), .agg (FR .u64 5 g)] w fun e w' => e = .returned (.bool (lexN f g 5)) ∧ Below w.heap.size w w' := by
  go_enter Tryd.func86, Tryd.ntmps86
  go_wp2_with fail
  have HB0 := Aside0.mk (bel_two w (.cells (FR .u64 5 f) 96) (.cells (FR .u64 5 g) 96))
  have HF0 := Aside0.mk ((Row.new w .u64 5 f 96).alloc (.cells (FR .u64 5 g) 96))
  have HG0 := Aside0.mk (Row.new (w.alloc (.cells (FR .u64 5 f) 96)) .u64 5 g 96)
  have hz : (w.alloc (.cells (FR .u64 5 f) 96)).heap.size = w.heap.size + 1 := by simp
  go_loopw [5, 4] (fun v5 v4 wr => v4 = .bool false ∧ LessRel f g w v5 wr) (fun v _ _ => ((intOf v) + 1).toNat)
  case atStart => exact ⟨rfl, 5, by omega, rfl, rfl, HB0.out, HF0.out, by rw [← hz]; exact HG0.out⟩
  case round =>
    obtain ⟨rfl, i, hi, rfl, he, hb, hr, hp⟩ := hrel
    have HB3 := Aside0.mk hb
    have HE := Aside0.mk he
    have HR3 := Aside0.mk hr
    have HP3 := Aside0.mk hp
    clear hz HB0 HF0 HG0
    rcases Nat.lt_or_ge 0 i with h15 | h15
    · obtain ⟨j, rfl⟩ : ∃ j, i = j + 1 := ⟨i - 1, by omega⟩
      have e1 : ((j + 1 : Nat) : Int) - 1 = (j : Int) := by omega
      rw [e1]
      have hge : ((j : Int) ≥ 0) = True := eq_true (by omega)
      have hlt : ((j : Int) < 5) = True := eq_true (by omega)
      have k0 := hr.cell j (by omega)
      have k1 := hp.cell j (by omega)
      clear hb hr hp he
      by_cases hq : f j = g j
      · have HQ := Aside0.mk hq
        have hd : (f j != g j) = false := by simp [hq]
        have hd2 : (f j = g j) = True := eq_true hq
        clear hq
        go_wp2_with fail
        go_region
        all_goals go_wp2_with fail
        refine ⟨⟨rfl, j, by omega, rfl, ?_, HB3.out.drew, HR3.out, HP3.out⟩, by simp only [intOf]; omega⟩
        rw [← HE.out]; show _ = if f j = g j then lexN f g j else _
        rw [if_pos HQ.out]
      · have HQ := Aside0.mk hq
        have hd : (f j != g j) = true := by simp [hq]
        have hd2 : (f j = g j) = False := eq_false hq
        clear hq
        go_wp2_with fail
        go_region
        all_goals go_wp2_with fail
        go_region
        all_goals go_wp2_with fail
        go_ret
        refine ⟨?_, HB3.out.drew.drew⟩
        rw [← HE.out]; show _ = Ending.returned (Value.bool (if f j = g j then lexN f g j else _))
        rw [if_neg HQ.out]; rfl
    · obtain rfl : i = 0 := by omega
      clear hb hr hp he
      go_wp2_with fail
      go_ret
      refine ⟨?_, HB3.out⟩
      rw [← HE.out]; rfl
theorem mod32 (z : Int) : Go.bits .and .u64 (z % 18446744073709551616) 4294967295 = z % 18446744073709551616 % 4294967296 := by
  have h := and32 (z % 18446744073709551616).toNat (by omega)
  rw [Int.toNat_of_nonneg (by omega)] at h
  rw [h]; omega
theorem mul64_calls (x y : Nat) (hx : x < 18446744073709551616) (hy : y < 18446744073709551616) (w : World) :
    Calls Tryd.prog 87 #[.int .u64 (x : Int), .int .u64 (y : Int)] w fun e w' => e = .returned (.tuple #[.int .u64 ((x * y / 18446744073709551616 : Nat) : Int), .int .u64 ((x * y % 18446744073709551616 : Nat) : Int)]) ∧ w' = w := by
  obtain ⟨h1, h2, h3, h4⟩ := Lib.mul64_hi x y hx hy
  have a0 := and32 x hx
  have a1 := and32 y hy
  go_enter Tryd.func87, Tryd.ntmps87
  go_wp2_with fail
  go_ret2
  refine ⟨?_, rfl⟩
  show Ending.returned (Value.tuple #[_, _]) = _
  simp only [u64wm]
  have c1 : (x : Int) / 4294967296 * ((y : Int) / 4294967296) = ((x / 4294967296 * (y / 4294967296) : Nat) : Int) := by simp
  have c2 : (x : Int) / 4294967296 * ((y : Int) % 4294967296) = ((x / 4294967296 * (y % 4294967296) : Nat) : Int) := by simp
  have c3 : (x : Int) % 4294967296 * ((y : Int) / 4294967296) = ((x % 4294967296 * (y / 4294967296) : Nat) : Int) := by simp
  have c4 : (x : Int) % 4294967296 * ((y : Int) % 4294967296) = ((x % 4294967296 * (y % 4294967296) : Nat) : Int) := by simp
  have c5 : (x : Int) * (y : Int) = ((x * y : Nat) : Int) := by simp
  have hb : x * y / 18446744073709551616 < 18446744073709551616 := by
    rw [Nat.div_lt_iff_lt_mul (by omega)]
    exact Nat.mul_lt_mul_of_lt_of_lt hx hy
  rw [← h4] at hb
  rw [c1, c2, c3, c4, c5, ← h4]
  clear a0 a1 c1 c2 c3 c4 c5 h4
  generalize x / 4294967296 * (y / 4294967296) = A at *
  generalize x / 4294967296 * (y % 4294967296) = B at *
  generalize x % 4294967296 * (y / 4294967296) = C at *
  generalize x % 4294967296 * (y % 4294967296) = D at *
  rw [mod32]
  simp only [Array.getD_eq_getD_getElem?, List.getElem?_toArray, List.getElem?_cons_succ, List.getElem?_cons_zero, Option.getD_some, Ending.returned.injEq, Value.tuple.injEq, Array.mk.injEq, List.cons.injEq, Value.int.injEq, true_and, and_true]
  constructor
  · omega
  · omega
theorem add64_run (x y c : Int) (hx : 0 ≤ x) (hy : 0 ≤ y) (hc0 : 0 ≤ c) (hc : c ≤ 1) (w : World) :
    (callFunc 71 #[.int .u64 x, .int .u64 y, .int .u64 c]).run Tryd.prog w = .ok (.value (.tuple #[.int .u64 ((x + y + c) % 18446744073709551616), .int .u64 ((x + y + c) / 18446744073709551616)])) w := by
  rw [run_callFunc_extern Tryd.func71 (by kernel_rfl) (by kernel_rfl) (by kernel_rfl) (e := add64Entry) (by kernel_rfl), run_add64 x y c hx hy hc0 hc]
  rfl
theorem sub64_run (x y b : Int) (hx : 0 ≤ x ∧ x < 18446744073709551616) (hy : 0 ≤ y ∧ y < 18446744073709551616) (hb0 : 0 ≤ b) (hb : b ≤ 1) (w : World) :
    (callFunc 94 #[.int .u64 x, .int .u64 y, .int .u64 b]).run Tryd.prog w = .ok (.value (.tuple #[.int .u64 ((x - y - b) % 18446744073709551616), .int .u64 (-((x - y - b) / 18446744073709551616))])) w := by
  obtain ⟨X, rfl⟩ := Int.eq_ofNat_of_zero_le hx.1
  obtain ⟨Y, rfl⟩ := Int.eq_ofNat_of_zero_le hy.1
  obtain ⟨B, rfl⟩ := Int.eq_ofNat_of_zero_le hb0
  have e1 : (((X + 18446744073709551616 - Y - B) % 18446744073709551616 : Nat) : Int) = ((X : Int) - Y - B) % 18446744073709551616 := by omega
  have e2 : ((if X < Y + B then 1 else 0 : Nat) : Int) = -(((X : Int) - Y - B) / 18446744073709551616) := by split <;> omega
  rw [run_callFunc_extern Tryd.func94 (by kernel_rfl) (by kernel_rfl) (by kernel_rfl) (e := sub64Entry) (by kernel_rfl), run_sub64 X Y B (by omega), e1, e2]
  rfl
def mnC (g : Nat → Int) (k : Int) : Nat → Int
  | 0 => 0
  | i + 1 => (g i * k + mnC g k i) / 18446744073709551616
def mnB (f g : Nat → Int) (k : Int) : Nat → Int
  | 0 => 0
  | i + 1 => -((f i - (g i * k + mnC g k i) % 18446744073709551616 - mnB f g k i) / 18446744073709551616)
def mnD (f g : Nat → Int) (k : Int) (i : Nat) : Int := (f i - (g i * k + mnC g k i) % 18446744073709551616 - mnB f g k i) % 18446744073709551616
def U64 (f : Nat → Int) (n : Nat) : Prop := ∀ j, j < n → 0 ≤ f j ∧ f j < 18446744073709551616
theorem mul_b (x y : Int) (hx : 0 ≤ x ∧ x < 18446744073709551616) (hy : 0 ≤ y ∧ y < 18446744073709551616) : 0 ≤ x * y ∧ x * y ≤ 18446744073709551615 * 18446744073709551615 :=
  ⟨Int.mul_nonneg hx.1 hy.1, Int.le_trans (Int.mul_le_mul_of_nonneg_right (show x ≤ 18446744073709551615 by omega) hy.1) (Int.mul_le_mul_of_nonneg_left (show y ≤ 18446744073709551615 by omega) (by omega))⟩
theorem mnC_b (g : Nat → Int) (k : Int) (n : Nat) (hg : U64 g n) (hk : 0 ≤ k ∧ k < 18446744073709551616) : ∀ i, i ≤ n → 0 ≤ mnC g k i ∧ mnC g k i < 18446744073709551616
  | 0, _ => by simp [mnC]
  | i + 1, h => by
    have h1 := mnC_b g k n hg hk i (by omega)
    have h2 := mul_b (g i) k (hg i (by omega)) hk
    rw [mnC]
    generalize g i * k = p at *
    omega
theorem mnB_b (f g : Nat → Int) (k : Int) (n : Nat) (hf : U64 f n) : ∀ i, i ≤ n → 0 ≤ mnB f g k i ∧ mnB f g k i ≤ 1
  | 0, _ => by simp [mnB]
  | i + 1, h => by
    have h1 := mnB_b f g k n hf i (by omega)
    have h2 := hf i (by omega)
    rw [mnB]
    generalize (g i * k + mnC g k i) = p at *
    omega
theorem mnD_b (f g : Nat → Int) (k : Int) (i : Nat) : 0 ≤ mnD f g k i ∧ mnD f g k i < 18446744073709551616 := by unfold mnD; omega
theorem mnD_val (f g : Nat → Int) (k : Int) : ∀ n, val 18446744073709551616 (mnD f g k) n = val 18446744073709551616 f n - k * val 18446744073709551616 g n + (mnB f g k n + mnC g k n) * 18446744073709551616 ^ n
  | 0 => by simp [val, mnB, mnC]
  | n + 1 => by
    have ih := mnD_val f g k n
    have e1 : mnD f g k n = f n - (g n * k + mnC g k n - mnC g k (n + 1) * 18446744073709551616) - mnB f g k n + mnB f g k (n + 1) * 18446744073709551616 := by
      rw [mnB, mnC, mnD]
      generalize g n * k + mnC g k n = p
      omega
    simp only [val, ih, e1, Int.pow_succ]
    generalize (18446744073709551616 : Int) ^ n = q
    generalize val 18446744073709551616 f n = F
    generalize val 18446744073709551616 g n = G
    generalize mnB f g k n = b
    generalize mnC g k n = c
    generalize mnB f g k (n + 1) = b'
    generalize mnC g k (n + 1) = c'
    grind
theorem mnD_exact (f g : Nat → Int) (k : Int) (n : Nat) (hf : U64 f n) (hg : U64 g n) (hk : 0 ≤ k ∧ k < 18446744073709551616) (h : k * val 18446744073709551616 g n ≤ val 18446744073709551616 f n) :
    val 18446744073709551616 (mnD f g k) n = val 18446744073709551616 f n - k * val 18446744073709551616 g n := by
  have h1 := mnD_val f g k n
  have h2 := val_b 18446744073709551616 (by omega) (mnD f g k) n (fun j _ => mnD_b f g k j)
  have h3 := mnC_b g k n hg hk n (Nat.le_refl _)
  have h4 := mnB_b f g k n hf n (Nat.le_refl _)
  have h5 : mnB f g k n + mnC g k n = 0 ∨ 1 ≤ mnB f g k n + mnC g k n := by omega
  rcases h5 with h5 | h5
  · rw [h1, h5]; omega
  · exfalso
    have h6 := Int.mul_le_mul_of_nonneg_right h5 (Int.le_of_lt (pow_pos' 18446744073709551616 (by omega) n))
    omega
def MinusRel (f g : Nat → Int) (k : Int) (w : World) (v13 v7 v8 : Value) (wr : World) : Prop :=
  ∃ (i : Nat), i ≤ 5 ∧ v13 = .int .i64 (i : Int) ∧ v7 = .int .u64 (mnB f g k i) ∧ v8 = .int .u64 (mnC g k i) ∧ Below w.heap.size w wr ∧ Row wr w.heap.size .u64 5 (fun j => if j < i then mnD f g k j else f j) 96 ∧ Row wr (w.heap.size + 1) .u64 5 g 96 ∧ Row wr (w.heap.size + 1 + 1) .u64 5 (fun _ => 0) 96
theorem minus_calls (f g : Nat → Int) (k : Int) (w : World) (hf : U64 f 5) (hg : U64 g 5) (hk : 0 ≤ k ∧ k < 18446744073709551616) :
    Calls Tryd.prog 85 #[.agg (FR .u64 5 f), .agg (FR .u64 5 g), .int .u64 k] w fun e w' => e = .returned (.agg (FR .u64 5 (mnD f g k))) ∧ Below w.heap.size w w' := by
  have HF := Aside0.mk hf
  have HG := Aside0.mk hg
  have HK := Aside0.mk hk
  clear hf hg hk
  go_enter Tryd.func85, Tryd.ntmps85
  go_wp2_with fail
  have HB0 := Aside0.mk (bel_three w (.cells (FR .u64 5 f) 96) (.cells (FR .u64 5 g) 96) (.cells (FR .u64 5 fun _ => 0) 96))
  have HF0 := Aside0.mk (((Row.new w .u64 5 f 96).alloc (.cells (FR .u64 5 g) 96)).alloc (.cells (FR .u64 5 fun _ => 0) 96))
  have HG0 := Aside0.mk ((Row.new (w.alloc (.cells (FR .u64 5 f) 96)) .u64 5 g 96).alloc (.cells (FR .u64 5 fun _ => 0) 96))
  have HZ0 := Aside0.mk (Row.new ((w.alloc (.cells (FR .u64 5 f) 96)).alloc (.cells (FR .u64 5 g) 96)) .u64 5 (fun _ => 0) 96)
  have hz : (w.alloc (.cells (FR .u64 5 f) 96)).heap.size = w.heap.size + 1 := by simp
  have hz2 : ((w.alloc (.cells (FR .u64 5 f) 96)).alloc (.cells (FR .u64 5 g) 96)).heap.size = w.heap.size + 1 + 1 := by simp
  rw [hz] at HG0
  rw [hz2] at HZ0
  clear hz hz2
  go_loopw [13, 7, 8] (fun v13 v7 v8 wr => MinusRel f g k w v13 v7 v8 wr) (fun v _ _ _ => 5 - (intOf v).toNat)
  case atStart => exact ⟨0, by omega, rfl, rfl, rfl, HB0.out, HF0.out, HG0.out, HZ0.out⟩
  case round =>
    obtain ⟨i, hi, rfl, rfl, rfl, hb, hr, hp, hq⟩ := hrel
    clear HB0 HF0 HG0 HZ0
    have HB := Aside0.mk hb
    have HR := Aside0.mk hr
    have HP := Aside0.mk hp
    have HQ := Aside0.mk hq
    have hsz := hq.lt
    rcases Nat.lt_or_ge i 5 with h5 | h5
    · have hfi := HF.out i h5
      have hgi := HG.out i h5
      have hc := mnC_b g k 5 HG.out HK.out i hi
      have hbb := mnB_b f g k 5 HF.out i hi
      have k0 := hr.cell i h5
      rw [if_neg (Nat.lt_irrefl i)] at k0
      have k1 := hp.cell i h5
      have f0 := hr.fro i
      have hlt : ((i : Int) < 5) = True := eq_true (by omega)
      have hkk := HK.out
      have HS := Aside0.mk (hr.set i (mnD f g k i) h5)
      have HC1 := Aside0.mk (show mnC g k (i + 1) = (g i * k + mnC g k i) / 18446744073709551616 from rfl)
      have HB1 := Aside0.mk (show mnB f g k (i + 1) = -((f i - (g i * k + mnC g k i) % 18446744073709551616 - mnB f g k i) / 18446744073709551616) from rfl)
      have HD1 := Aside0.mk (show mnD f g k i = (f i - (g i * k + mnC g k i) % 18446744073709551616 - mnB f g k i) % 18446744073709551616 from rfl)
      generalize mnC g k i = c at *
      generalize mnB f g k i = bo at *
      obtain ⟨G, hG⟩ := Int.eq_ofNat_of_zero_le hgi.1
      obtain ⟨K, hK⟩ := Int.eq_ofNat_of_zero_le hkk.1
      have HM := Aside0.mk (fun w => mul64_calls G K (by omega) (by omega) w)
      rw [← hG, ← hK] at HM
      have hpb := mul_b (g i) k hgi hkk
      have hN : ((G * K : Nat) : Int) = g i * k := by rw [hG, hK]; simp
      obtain ⟨pp, hpp⟩ : ∃ p, G * K = p := ⟨_, rfl⟩
      rw [hpp] at HM hN
      rw [← hN] at hpb
      have HN := Aside0.mk hN
      have e1 := add64_run ((pp : Int) % 18446744073709551616) c 0 (by omega) hc.1 (by omega) (by omega)
      have e2 := sub64_run (f i) (((pp : Int) + c) % 18446744073709551616) bo hfi (by omega) hbb.1 hbb.2
      have e3 : (((pp : Int) % 18446744073709551616) + c + 0) % 18446744073709551616 = ((pp : Int) + c) % 18446744073709551616 := by omega
      have e4 : (((pp : Int) / 18446744073709551616) + (((pp : Int) % 18446744073709551616) + c) / 18446744073709551616) = ((pp : Int) + c) / 18446744073709551616 := by omega
      have e5 : IntKind.u64.wrap (((pp : Int) / 18446744073709551616) + (((pp : Int) % 18446744073709551616) + c) / 18446744073709551616) = ((pp : Int) + c) / 18446744073709551616 := by rw [e4]; exact u64w _ (by omega) (by omega)
      rw [e3] at e1
      clear hb hr hp hq hfi hgi hc hbb hkk hG hK hpb hN hpp e3 e4 HF HG HK
      go_wp2_with fail
      refine (HM.out _).mono ?_
      rintro e w1 ⟨rfl, rfl⟩
      go_wp2_with fail
      refine ⟨⟨i + 1, by omega, rfl, ?_, ?_, yJ HB.out _ _ (Nat.le_refl _), ?_, ?_, ?_⟩, meas_up 5 i h5⟩
      · rw [HB1.out, ← HN.out]
      · rw [HC1.out, ← HN.out]
      · rw [← HN.out] at HD1
        rw [← HD1.out]
        exact row_eq HS.out (fun j hj => by
          unfold upd
          by_cases hji : j = i
          · subst hji; rw [if_pos rfl, if_pos (by omega)]
          · rw [if_neg hji]
            show (if j < i then mnD f g k j else f j) = _
            by_cases hjl : j < i
            · rw [if_pos hjl, if_pos (by omega)]
            · rw [if_neg hjl, if_neg (by omega)])
      · exact HP.out.other _ _ (show w.heap.size + 1 ≠ w.heap.size by omega)
      · exact HQ.out.other _ _ (show w.heap.size + 1 + 1 ≠ w.heap.size by omega)
    · obtain rfl : i = 5 := by omega
      have HM := Aside0.mk (row_eq hr (fun j hj => if_pos hj))
      clear hb hr hp hq
      go_wp2_with (first | refine zX HM.out Tryd.underlying96 infoNum rfl rfl rfl rfl ?_ | refine step_store (mnD f g k) HQ.out infoNum rfl rfl rfl rfl rfl ?_)
      refine bodyPost_ret (zY rfl (HQ.out.all) rfl Tryd.underlying96 rfl infoNum) rfl ?_
      exact ⟨rfl, yG (by omega) _ _ _ HB.out⟩
def LL : Int := 7237005577332262213973186563042994240857116359379907606001950938285454250989
def ordL (i : Nat) : Int := if i = 0 then 6346243789798364141 else if i = 1 then 1503914060200516822 else if i = 3 then 1152921504606846976 else 0
def V5 (f : Nat → Int) : Int := val 18446744073709551616 f 5
theorem V5_ord : V5 ordL = LL := by decide
theorem ord_U : U64 ordL 5 := fun j hj => by
  unfold ordL
  split
  · omega
  · split
    · omega
    · split <;> omega
def Ord (w : World) : Prop := ∀ j, j < 5 → w.cell? ((⟨1, 0, none⟩ : Addr).add j) = some (.int .u64 (ordL j))
theorem Ord.lt {w : World} (h : Ord w) : 1 < w.heap.size := block_lt_of_cell (h 0 (by omega))
theorem Ord.below {w w' : World} {B : Nat} (h : Ord w) (hb : Below B w w') (hB : 1 < B) : Ord w' := fun j hj => by
  rw [hb.cell (p := (⟨1, 0, none⟩ : Addr).add j) (by unfold Addr.add; split <;> exact hB)]; exact h j hj
theorem infoTab : (Tryd.prog.info? 38).map (·.size) = some 5 := by kernel_rfl
def rowNatB (B : Int) (n : Nat) (w : World) (g : Nat) : Nat := match w.heap[g]? with
  | some (.cells cs _ _) => (val B (fun i => match cs[i]? with | some v => intOf v | none => 0) n).toNat
  | _ => 0
theorem rowNatB_of (B : Int) {w : World} {g n : Nat} {k : IntKind} {f : Nat → Int} {t : TypeId} (h : Row w g k n f t) : rowNatB B n w g = (val B f n).toNat := by
  unfold rowNatB
  rw [h]
  have e : val B (fun i => match (FR k n f)[i]? with | some v => intOf v | none => 0) n = val B f n := val_congr B _ _ n (fun i hi => by show (match (FR k n f)[i]? with | some v => intOf v | none => 0) = _; rw [FR_at _ _ _ _ hi]; rfl)
  show (val B (fun i => match (FR k n f)[i]? with | some v => intOf v | none => 0) n).toNat = _
  rw [e]
def shF (f : Nat → Int) (c : Int) (j : Nat) : Int := if j = 0 then f 0 % 72057594037927936 * 256 + c else f j % 72057594037927936 * 256 + f (j - 1) / 72057594037927936
theorem shF_b (f : Nat → Int) (c : Int) (n : Nat) (hf : U64 f n) (hc : 0 ≤ c ∧ c < 256) : U64 (shF f c) n := fun j hj => by
  unfold shF
  split
  · omega
  · have := hf (j - 1) (by omega); omega
theorem shF_val (f : Nat → Int) (c : Int) : ∀ n, val 18446744073709551616 (shF f c) (n + 1) = 256 * val 18446744073709551616 f (n + 1) + c - f n / 72057594037927936 * 18446744073709551616 ^ (n + 1)
  | 0 => by simp [val, shF]; omega
  | n + 1 => by
    have ih := shF_val f c n
    rw [val, ih]
    show _ + shF f c (n + 1) * _ = 256 * (val _ f (n + 1) + f (n + 1) * _) + c - _
    have e : shF f c (n + 1) = f (n + 1) * 256 - f (n + 1) / 72057594037927936 * 18446744073709551616 + f n / 72057594037927936 := by
      unfold shF
      rw [if_neg (by omega), Nat.add_sub_cancel]
      omega
    rw [e, Int.pow_succ _ (n + 1)]
    generalize (18446744073709551616 : Int) ^ (n + 1) = q
    generalize f (n + 1) / 72057594037927936 = x
    generalize f n / 72057594037927936 = y
    generalize f (n + 1) = z
    generalize val 18446744073709551616 f (n + 1) = F
    grind
theorem V5_five (f : Nat → Int) : V5 f = f 0 + f 1 * 18446744073709551616 + f 2 * 340282366920938463463374607431768211456 + f 3 * 6277101735386680763835789423207666416102355444464034512896 + f 4 * 115792089237316195423570985008687907853269984665640564039457584007913129639936 := by
  simp [V5, val]
theorem V5_small (f : Nat → Int) (hf : U64 f 5) (hl : V5 f < LL) : f 4 = 0 ∧ f 3 ≤ 1152921504606846976 := by
  have h0 := hf 0 (by omega)
  have h1 := hf 1 (by omega)
  have h2 := hf 2 (by omega)
  have h3 := hf 3 (by omega)
  have h4 := hf 4 (by omega)
  rw [V5_five] at hl
  unfold LL at hl
  omega
theorem shF_V5 (f : Nat → Int) (c : Int) (hf : U64 f 5) (hl : V5 f < LL) : V5 (shF f c) = 256 * V5 f + c := by
  have h : val 18446744073709551616 (shF f c) 5 = 256 * val 18446744073709551616 f 5 + c - f 4 / 72057594037927936 * 18446744073709551616 ^ 5 := shF_val f c 4
  have h4 := (V5_small f hf hl).1
  unfold V5
  rw [h, h4]
  omega
def kF (h : Nat → Int) : Int := h 3 / 1152921504606846976 + h 4 * 16
theorem kF_b (f : Nat → Int) (c : Int) (hf : U64 f 5) (hl : V5 f < LL) : 0 ≤ shF f c 4 ∧ shF f c 4 ≤ 16 ∧ 0 ≤ kF (shF f c) ∧ kF (shF f c) ≤ 300 := by
  have h := V5_small f hf hl
  have h3 := hf 3 (by omega)
  have h2 := hf 2 (by omega)
  have e4 : shF f c 4 = f 4 % 72057594037927936 * 256 + f 3 / 72057594037927936 := rfl
  have e3 : shF f c 3 = f 3 % 72057594037927936 * 256 + f 2 / 72057594037927936 := rfl
  unfold kF
  rw [e4, e3]
  omega
theorem kF_fits (h : Nat → Int) (hh : U64 h 5) (k1 : kF h ≤ 300) (k0 : 0 < kF h) : (kF h - 1) * V5 ordL ≤ V5 h := by
  have h0 := hh 0 (by omega)
  have h1 := hh 1 (by omega)
  have h2 := hh 2 (by omega)
  have h3 := hh 3 (by omega)
  have h4 := hh 4 (by omega)
  rw [V5_ord, V5_five]
  unfold kF at *
  unfold LL
  omega
theorem or16 (x y : Int) (h0 : 0 ≤ x ∧ x < 16) (h1 : 0 ≤ y) (h2 : y ≤ 16) : Go.bits .or .u64 x (y * 16) = x + y * 16 := by
  rw [u64_or _ _ (by omega) (by omega) (by omega) (by omega)]
  have e : x.toNat ||| (y * 16).toNat = y.toNat * 2 ^ 4 + x.toNat := by
    have : (y * 16).toNat = y.toNat * 2 ^ 4 := by omega
    rw [this, Nat.or_comm, Nat.mul_comm, ← Nat.two_pow_add_eq_or_of_lt (by omega)]
  rw [e]
  omega
theorem or256 (x y : Int) (h0 : 0 ≤ x ∧ x < 72057594037927936) (h1 : 0 ≤ y) (h2 : y < 256) : Go.bits .or .u64 (x * 256) y = x * 256 + y := by
  rw [u64_or _ _ (by omega) (by omega) (by omega) (by omega)]
  have e : (x * 256).toNat ||| y.toNat = x.toNat * 2 ^ 8 + y.toNat := by
    have : (x * 256).toNat = x.toNat * 2 ^ 8 := by omega
    rw [this, Nat.mul_comm, ← Nat.two_pow_add_eq_or_of_lt (by omega)]
  rw [e]
  omega
theorem wrap256 (x : Int) : IntKind.u64.wrap (x * 256) = x % 72057594037927936 * 256 := by
  show (x * 256) % 18446744073709551616 = _
  omega
def FedRel (f : Nat → Int) (w : World) (v5 : Value) (wr : World) : Prop :=
  ∃ (i : Nat), i ≤ 4 ∧ v5 = .int .i64 (i : Int) ∧ Below w.heap.size w wr ∧ Row wr w.heap.size .u64 5 (fun j => if i < j then shF f 0 j else f j) 96 ∧ Row wr (w.heap.size + 1) .u64 5 (fun _ => 0) 96
def FedRel2 (N : Int) (w : World) (wr : World) : Prop :=
  ∃ h, U64 h 5 ∧ V5 h % LL = N % LL ∧ Below w.heap.size w wr ∧ Row wr w.heap.size .u64 5 h 96 ∧ Row wr (w.heap.size + 1) .u64 5 (fun _ => 0) 96
theorem fed_calls (f : Nat → Int) (c : Int) (w : World) (ho : Ord w) (hf : U64 f 5) (hl : V5 f < LL) (hc : 0 ≤ c ∧ c < 256) :
    Calls Tryd.prog 67 #[.agg (FR .u64 5 f), .int .u8 c] w fun e w' => e = .returned (.agg (FR .u64 5 (dig 18446744073709551616 ((256 * V5 f + c) % LL)))) ∧ Below w.heap.size w w' := by
  have HO := Aside0.mk ho
  have HF := Aside0.mk hf
  have HL := Aside0.mk hl
  have HC := Aside0.mk hc
  clear ho hf hl hc
  go_enter Tryd.func67, Tryd.ntmps67
  go_wp2_with fail
  have HB0 := Aside0.mk (bel_two w (.cells (FR .u64 5 f) 96) (.cells (FR .u64 5 fun _ => 0) 96))
  have HF0 := Aside0.mk ((Row.new w .u64 5 f 96).alloc (.cells (FR .u64 5 fun _ => 0) 96))
  have HZ0 := Aside0.mk (show Row _ _ .u64 5 (fun _ => 0) 96 from heap_alloc2_new w (.cells (FR .u64 5 f) 96) (.cells (FR .u64 5 fun _ => 0) 96))
  go_loopw [5] (fun v5 wr => FedRel f w v5 wr) (fun v _ => (intOf v).toNat)
  case atStart => exact ⟨4, by omega, rfl, HB0.out, row_eq HF0.out (fun j hj => by rw [if_neg (by omega)]), HZ0.out⟩
  case round =>
    obtain ⟨i, hi, rfl, hb, hr, hz⟩ := hrel
    clear HB0 HF0 HZ0
    have HB := Aside0.mk hb
    have HR := Aside0.mk hr
    have HZ := Aside0.mk hz
    have hsz := hz.lt
    rcases Nat.lt_or_ge 0 i with h5 | h5
    · obtain ⟨j, rfl⟩ : ∃ j, i = j + 1 := ⟨i - 1, by omega⟩
      have hfi := HF.out (j + 1) (by omega)
      have hfj := HF.out j (by omega)
      have k0 := hr.cell (j + 1) (by omega)
      have k1 := hr.cell j (by omega)
      rw [if_neg (Nat.lt_irrefl (j + 1))] at k0
      rw [if_neg (show ¬ j + 1 < j by omega)] at k1
      have f0 := hr.fro (j + 1)
      have e1 : ((j + 1 : Nat) : Int) - 1 = (j : Int) := by omega
      have e2 : ((j + 1 : Nat) : Int).toNat = j + 1 := by omega
      have hgt : (((j + 1 : Nat) : Int) > 0) = True := eq_true (by omega)
      have hlt1 : (((j + 1 : Nat) : Int) < 5) = True := eq_true (by omega)
      have hlt2 : ((j : Int) < 5) = True := eq_true (by omega)
      have hge : ((0 : Int) ≤ ((j + 1 : Nat) : Int)) = True := eq_true (by omega)
      have HS := Aside0.mk (hr.set (j + 1) (shF f 0 (j + 1)) (by omega))
      have es : shF f 0 (j + 1) = f (j + 1) % 72057594037927936 * 256 + f j / 72057594037927936 := rfl
      rw [es] at HS
      have hw := wrap256 (f (j + 1))
      have hor := or256 (f (j + 1) % 72057594037927936) (f j / 72057594037927936) (by omega) (by omega) (by omega)
      clear hb hr hz hfi hfj es
      go_wp2_with fail
      go_region
      all_goals go_wp2_with fail
      refine ⟨⟨j, by omega, rfl, (yJ HB.out _ _ (Nat.le_refl _)).drew, row_eq HS.out (fun x hx => by
        unfold upd
        by_cases hxj : x = j + 1
        · subst hxj; rw [if_pos rfl, if_pos (by omega)]; rfl
        · rw [if_neg hxj]
          show (if j + 1 < x then shF f 0 x else f x) = _
          by_cases hxl : j + 1 < x
          · rw [if_pos hxl, if_pos (by omega)]
          · rw [if_neg hxl, if_neg (by omega)]), HZ.out.other _ _ (show w.heap.size + 1 ≠ w.heap.size by omega)⟩, by simp only [intOf]; omega⟩
    · obtain rfl : i = 0 := by omega
      have es0 : shF f c 0 = f 0 % 72057594037927936 * 256 + c := rfl
      have HU := Aside0.mk (shF_b f c 5 HF.out HC.out)
      have HV := Aside0.mk (shF_V5 f c HF.out HL.out)
      have HK := Aside0.mk (kF_b f c HF.out HL.out)
      have HKf := Aside0.mk (kF_fits (shF f c) HU.out)
      have k0 : wr.cell? ⟨w.heap.size, 0, none⟩ = some (.int .u64 (f 0)) := hr.cell 0 (by omega)
      have k3 : wr.cell? ⟨w.heap.size, 3, none⟩ = some (.int .u64 (shF f c 3)) := hr.cell 3 (by omega)
      have k4 : wr.cell? ⟨w.heap.size, 4, none⟩ = some (.int .u64 (shF f c 4)) := hr.cell 4 (by omega)
      have f0 := hr.fro 0
      have hf0 := HF.out 0 (by omega)
      have hc := HC.out
      have hw := wrap256 (f 0)
      have hwc : IntKind.u64.wrap c = c := u64w _ (by omega) (by omega)
      have hor := or256 (f 0 % 72057594037927936) c (by omega) (by omega) (by omega)
      have HS : Aside0 (Row (wr.setCell ⟨w.heap.size, 0, none⟩ (.int .u64 (f 0 % 72057594037927936 * 256 + c))) w.heap.size .u64 5 (shF f c) 96) := ⟨row_eq (hr.set 0 (shF f c 0) (by omega)) (fun j hj => by
        unfold upd
        by_cases hj0 : j = 0
        · subst hj0; rw [if_pos rfl]
        · rw [if_neg hj0]
          show (if 0 < j then shF f 0 j else f j) = _
          rw [if_pos (by omega)]
          unfold shF
          rw [if_neg hj0, if_neg hj0])⟩
      have HBs := Aside0.mk (yJ HB.out ⟨w.heap.size, 0, none⟩ (.int .u64 (f 0 % 72057594037927936 * 256 + c)) (Nat.le_refl w.heap.size))
      have HZs := Aside0.mk (HZ.out.other ⟨w.heap.size, 0, none⟩ (.int .u64 (f 0 % 72057594037927936 * 256 + c)) (show w.heap.size + 1 ≠ w.heap.size by omega))
      have HOs := Aside0.mk (HO.out.below HBs.out HO.out.lt)
      have h4 : 0 ≤ shF f c 4 ∧ shF f c 4 ≤ 16 := ⟨HK.out.1, HK.out.2.1⟩
      have h3 := HU.out 3 (by omega)
      have hw4 : IntKind.u64.wrap (shF f c 4 * 16) = shF f c 4 * 16 := u64w _ (by omega) (by omega)
      have hor4 := or16 (shF f c 3 / 1152921504606846976) (shF f c 4) (by omega) h4.1 h4.2
      clear hb hr hz hf0 hc es0 h4 h3
      have hks : 0 ≤ kF (shF f c) ∧ kF (shF f c) ≤ 300 := HK.out.2.2
      have hkd : shF f c 3 / 1152921504606846976 + shF f c 4 * 16 = kF (shF f c) := rfl
      generalize kF (shF f c) = k at *
      by_cases hk : 0 < k
      · have hk1 : (k > 0) = True := eq_true hk
        have HKB : Aside0 (0 ≤ k - 1 ∧ k - 1 < 18446744073709551616) := ⟨by omega⟩
        have hwk : IntKind.u64.wrap (k - 1) = k - 1 := u64w _ (by omega) (by omega)
        have HX := Aside0.mk (mnD_exact (shF f c) ordL (k - 1) 5 HU.out ord_U (by omega) (HKf.out hks.2 hk))
        have HXb : Aside0 (U64 (mnD (shF f c) ordL (k - 1)) 5) := ⟨fun j _ => mnD_b _ _ _ j⟩
        clear hks
        go_wp2_with (first | refine zX HS.out Tryd.underlying96 infoNum rfl rfl rfl rfl ?_ | refine step_load_at HOs.out Tryd.underlying38 infoTab rfl rfl rfl rfl ?_)
        refine (minus_calls _ _ _ _ HU.out ord_U HKB.out).mono ?_
        rintro e w1 ⟨rfl, hb1⟩
        have HB1 := Aside0.mk (HBs.out.trans (hb1.mono HBs.out.size))
        have HR1 := Aside0.mk (HS.out.below hb1 HS.out.lt)
        have HZ1 := Aside0.mk (HZs.out.below hb1 HZs.out.lt)
        clear hb1 HS HBs HZs HOs
        go_wp2_with (refine zQ (mnD (shF f c) ordL (k - 1)) HR1.out infoNum rfl rfl rfl rfl rfl ?_; intro w2 hs hr2; have HR2 := Aside0.mk hr2; have HB2 := Aside0.mk (hs.bel _ _ (Nat.le_refl _) HB1.out); have HZ2 := Aside0.mk (HZ1.out.stored hs (show w.heap.size + 1 ≠ w.heap.size by omega)); clear hs hr2)
        go_loopw [44] (fun _ wr => FedRel2 (256 * V5 f + c) w wr) (fun _ wr => rowNatB 18446744073709551616 5 wr w.heap.size)
        case atStart => exact ⟨_, HXb.out, by have := HX.out; unfold V5 at *; rw [this, ← HV.out]; show (_ - (k - 1) * V5 ordL) % LL = _; rw [V5_ord]; exact Int.sub_mul_emod_self_right .., HB2.out, HR2.out, HZ2.out⟩
        case round =>
          obtain ⟨h, hh, hv, hb, hr, hz⟩ := hrel
          have HH := Aside0.mk hh
          have HVh := Aside0.mk hv
          have HBh := Aside0.mk hb
          have HRh := Aside0.mk hr
          have HZh := Aside0.mk hz
          have HOh := Aside0.mk (HO.out.below hb HO.out.lt)
          have HLx := Aside0.mk (lexN_val 18446744073709551616 (by omega) h ordL 5 hh ord_U)
          have hsz2 := hz.lt
          have HM0 := Aside0.mk (rowNatB_of 18446744073709551616 hr)
          clear hh hv hb hr hz
          go_wp2_with (first | refine zX HRh.out Tryd.underlying96 infoNum rfl rfl rfl rfl ?_ | refine step_load_at HOh.out Tryd.underlying38 infoTab rfl rfl rfl rfl ?_)
          refine (less_calls h ordL _).mono ?_
          rintro e w2 ⟨rfl, hb2⟩
          have HB2 := Aside0.mk (HBh.out.trans (hb2.mono HBh.out.size))
          have HR2 := Aside0.mk (HRh.out.below hb2 HRh.out.lt)
          have HZ2 := Aside0.mk (HZh.out.below hb2 HZh.out.lt)
          have HO2 := Aside0.mk (HO.out.below HB2.out HO.out.lt)
          have hsz3 := HZ2.out.lt
          clear hb2 HBh HRh HZh HOh
          cases hx : lexN h ordL 5
          · have HX2 := Aside0.mk hx
            have HXV := Aside0.mk (mnD_exact h ordL 1 5 HH.out ord_U (by omega) (by have := HLx.out; rw [hx] at this; have h9 := of_decide_eq_false this.symm; omega))
            clear hx
            have hxf := HX2.out
            go_wp2_with (first | refine zX HR2.out Tryd.underlying96 infoNum rfl rfl rfl rfl ?_ | refine step_load_at HO2.out Tryd.underlying38 infoTab rfl rfl rfl rfl ?_)
            refine (minus_calls h ordL 1 _ HH.out ord_U (by omega)).mono ?_
            rintro e w3 ⟨rfl, hb3⟩
            have HB3 := Aside0.mk (HB2.out.trans (hb3.mono HB2.out.size))
            have HR3 := Aside0.mk (HR2.out.below hb3 HR2.out.lt)
            have HZ3 := Aside0.mk (HZ2.out.below hb3 HZ2.out.lt)
            clear hb3 hxf
            go_wp2_with (refine zQ (mnD h ordL 1) HR3.out infoNum rfl rfl rfl rfl rfl ?_; intro w4 hs hr4; have HS4 := Aside0.mk hs; have HR4 := Aside0.mk hr4; clear hs hr4)
            have HV3 := Aside0.mk (val_b 18446744073709551616 (by omega) (mnD h ordL 1) 5 (fun j _ => mnD_b _ _ _ j)).1
            refine ⟨⟨mnD h ordL 1, fun j _ => mnD_b _ _ _ j, ?_, HS4.out.bel _ _ (Nat.le_refl _) HB3.out, HR4.out, HZ3.out.stored HS4.out (show w.heap.size + 1 ≠ w.heap.size by omega)⟩, ?_⟩
            · rw [← HVh.out]
              have := HXV.out
              unfold V5
              rw [this]
              show (V5 h - 1 * V5 ordL) % LL = V5 h % LL
              rw [V5_ord, Int.one_mul]
              exact Int.sub_emod_right _ _
            · rw [HM0.out, rowNatB_of 18446744073709551616 HR4.out]
              have h1 := HXV.out
              have h2 := HV3.out
              have h3 : val 18446744073709551616 ordL 5 = LL := V5_ord
              rw [h3] at h1
              rw [h1] at h2 ⊢
              unfold LL at *
              omega
          · have HX2 := Aside0.mk hx
            clear hx
            have hxt := HX2.out
            go_wp2_with (first | refine zX HR2.out Tryd.underlying96 infoNum rfl rfl rfl rfl ?_ | (refine zQ h HZ2.out infoNum rfl rfl rfl rfl rfl ?_; intro w4 hs hr4; have HS4 := Aside0.mk hs; have HR4 := Aside0.mk hr4; clear hs hr4))
            refine bodyPost_ret (zY rfl HR4.out rfl Tryd.underlying96 rfl infoNum) rfl ?_
            refine ⟨?_, HS4.out.bel _ _ (by omega) HB2.out⟩
            have e1 : V5 h < LL := by have h8 := HLx.out; rw [hxt] at h8; have h9 := of_decide_eq_true h8.symm; rw [← V5_ord]; exact h9
            have e2 : 0 ≤ V5 h := (val_b 18446744073709551616 (by omega) h 5 HH.out).1
            have e3 : V5 h = (256 * V5 f + c) % LL := by rw [← HVh.out, Int.emod_eq_of_lt e2 e1]
            rw [FR_congr .u64 5 _ _ (fun j hj => dig_val 18446744073709551616 (by omega) h 5 HH.out j hj)]
            show _ = Ending.returned (Value.agg (FR .u64 5 (dig 18446744073709551616 _)))
            rw [← e3]
            rfl
      · obtain rfl : k = 0 := by omega
        go_wp2_with fail
        go_loopw [44] (fun _ wr => FedRel2 (256 * V5 f + c) w wr) (fun _ wr => rowNatB 18446744073709551616 5 wr w.heap.size)
        case atStart => exact ⟨_, HU.out, by rw [HV.out], HBs.out, HS.out, HZs.out⟩
        case round =>
          obtain ⟨h, hh, hv, hb, hr, hz⟩ := hrel
          have HH := Aside0.mk hh
          have HVh := Aside0.mk hv
          have HBh := Aside0.mk hb
          have HRh := Aside0.mk hr
          have HZh := Aside0.mk hz
          have HOh := Aside0.mk (HO.out.below hb HO.out.lt)
          have HLx := Aside0.mk (lexN_val 18446744073709551616 (by omega) h ordL 5 hh ord_U)
          have hsz2 := hz.lt
          have HM0 := Aside0.mk (rowNatB_of 18446744073709551616 hr)
          clear hh hv hb hr hz
          go_wp2_with (first | refine zX HRh.out Tryd.underlying96 infoNum rfl rfl rfl rfl ?_ | refine step_load_at HOh.out Tryd.underlying38 infoTab rfl rfl rfl rfl ?_)
          refine (less_calls h ordL _).mono ?_
          rintro e w2 ⟨rfl, hb2⟩
          have HB2 := Aside0.mk (HBh.out.trans (hb2.mono HBh.out.size))
          have HR2 := Aside0.mk (HRh.out.below hb2 HRh.out.lt)
          have HZ2 := Aside0.mk (HZh.out.below hb2 HZh.out.lt)
          have HO2 := Aside0.mk (HO.out.below HB2.out HO.out.lt)
          have hsz3 := HZ2.out.lt
          clear hb2 HBh HRh HZh HOh
          cases hx : lexN h ordL 5
          · have HX2 := Aside0.mk hx
            have HXV := Aside0.mk (mnD_exact h ordL 1 5 HH.out ord_U (by omega) (by have := HLx.out; rw [hx] at this; have h9 := of_decide_eq_false this.symm; omega))
            clear hx
            have hxf := HX2.out
            go_wp2_with (first | refine zX HR2.out Tryd.underlying96 infoNum rfl rfl rfl rfl ?_ | refine step_load_at HO2.out Tryd.underlying38 infoTab rfl rfl rfl rfl ?_)
            refine (minus_calls h ordL 1 _ HH.out ord_U (by omega)).mono ?_
            rintro e w3 ⟨rfl, hb3⟩
            have HB3 := Aside0.mk (HB2.out.trans (hb3.mono HB2.out.size))
            have HR3 := Aside0.mk (HR2.out.below hb3 HR2.out.lt)
            have HZ3 := Aside0.mk (HZ2.out.below hb3 HZ2.out.lt)
            clear hb3 hxf
            go_wp2_with (refine zQ (mnD h ordL 1) HR3.out infoNum rfl rfl rfl rfl rfl ?_; intro w4 hs hr4; have HS4 := Aside0.mk hs; have HR4 := Aside0.mk hr4; clear hs hr4)
            have HV3 := Aside0.mk (val_b 18446744073709551616 (by omega) (mnD h ordL 1) 5 (fun j _ => mnD_b _ _ _ j)).1
            refine ⟨⟨mnD h ordL 1, fun j _ => mnD_b _ _ _ j, ?_, HS4.out.bel _ _ (Nat.le_refl _) HB3.out, HR4.out, HZ3.out.stored HS4.out (show w.heap.size + 1 ≠ w.heap.size by omega)⟩, ?_⟩
            · rw [← HVh.out]
              have := HXV.out
              unfold V5
              rw [this]
              show (V5 h - 1 * V5 ordL) % LL = V5 h % LL
              rw [V5_ord, Int.one_mul]
              exact Int.sub_emod_right _ _
            · rw [HM0.out, rowNatB_of 18446744073709551616 HR4.out]
              have h1 := HXV.out
              have h2 := HV3.out
              have h3 : val 18446744073709551616 ordL 5 = LL := V5_ord
              rw [h3] at h1
              rw [h1] at h2 ⊢
              unfold LL at *
              omega
          · have HX2 := Aside0.mk hx
            clear hx
            have hxt := HX2.out
            go_wp2_with (first | refine zX HR2.out Tryd.underlying96 infoNum rfl rfl rfl rfl ?_ | (refine zQ h HZ2.out infoNum rfl rfl rfl rfl rfl ?_; intro w4 hs hr4; have HS4 := Aside0.mk hs; have HR4 := Aside0.mk hr4; clear hs hr4))
            refine bodyPost_ret (zY rfl HR4.out rfl Tryd.underlying96 rfl infoNum) rfl ?_
            refine ⟨?_, HS4.out.bel _ _ (by omega) HB2.out⟩
            have e1 : V5 h < LL := by have h8 := HLx.out; rw [hxt] at h8; have h9 := of_decide_eq_true h8.symm; rw [← V5_ord]; exact h9
            have e2 : 0 ≤ V5 h := (val_b 18446744073709551616 (by omega) h 5 HH.out).1
            have e3 : V5 h = (256 * V5 f + c) % LL := by rw [← HVh.out, Int.emod_eq_of_lt e2 e1]
            rw [FR_congr .u64 5 _ _ (fun j hj => dig_val 18446744073709551616 (by omega) h 5 HH.out j hj)]
            show _ = Ending.returned (Value.agg (FR .u64 5 (dig 18446744073709551616 _)))
            rw [← e3]
            rfl
end Go.Proofs.YtbmnkchcekacfaaDoor.P
end

section
namespace Go.Proofs.YtbmnkchcekacfaaDoor.P
set_option linter.unusedVariables false
set_option linter.unusedSimpArgs false
open Go.RowKit Go.Shelf
attribute [local go_sem] Oper.semAt_some setCell_drewN
section
variable {F : Fence} {m : Nat} {P : Program} {ops : Array Oper} {rest : List Oper} {o : Oper} {a : Act} {w : World} {Q : Exit → Act → World → Prop} {k : IntKind} {n : Nat} {f : Nat → Int} {t ty : TypeId} {x y : Operand} {g : Nat} {d : TypeDesc}
theorem stepIn_load (hr : Row w g k n f t) (hu : P.underlying ty = some d) (hi : (P.info? ty).map (·.size) = some n) (hd : (match d with | .struct _ | .array _ _ => true | _ => false) = true) (hgd : o.guard = none) (ho : o.op = .load ty x) (hx : a.eval x = .pointer (some ⟨g, 0, none⟩))
    (h : wpListIn F m P ops Q rest (a.put o.dst (.agg (FR k n f))) w) : wpListIn F m P ops Q (o :: rest) a w := by
  refine wpListIn_plain hgd fun K hK => ?_
  unfold Oper.wpIn
  refine ⟨by simp [Oper.about, ho], ?_⟩
  rw [Oper.semAt_plain F _ _ (by rw [ho]; intro c hc; cases hc), exec_load hr hu hi hd ho hx]
  exact hK _ _ h
theorem stepIn_storeG (f' : Nat → Int) (hr : Row w g k n f t) (hi : (P.info? ty).map (·.size) = some n) (hgd : o.guard = none) (hdst : o.dst = none) (ho : o.op = .store ty x y) (hx : a.eval x = .pointer (some ⟨g, 0, none⟩)) (hy : a.eval y = .agg (FR k n f'))
    (h : ∀ w', Stored w w' g → Row w' g k n f' t → wpListIn F m P ops Q rest a w') : wpListIn F m P ops Q (o :: rest) a w := by
  obtain ⟨ie, hie, hs⟩ : ∃ ie, P.info? ty = some ie ∧ ie.size = n := by
    cases he : P.info? ty with
    | none => rw [he] at hi; cases hi
    | some ie => rw [he] at hi; exact ⟨ie, rfl, Option.some.inj hi⟩
  have hrun := run_storeVar_row (P := P) ty ie hie g t (FR k n f) (FR k n f') w hr (by rw [FR_size, FR_size]) (by rw [FR_size, hs]) (FR_one k n f')
  refine wpListIn_plain hgd fun K hK => ?_
  unfold Oper.wpIn
  refine ⟨by simp [Oper.about, ho], ?_⟩
  rw [Oper.semAt_plain F _ _ (by rw [ho]; intro c hc; cases hc)]
  unfold execOp
  simp only [ho, hx, hy, Instr.storeAt, Instr.sureAddr, Sem.run_bind, Sem.run_pure, Result.andThen_ok, hrun]
  refine hK _ _ ?_
  rw [hdst]
  exact h _ ⟨fun k hk => setCells_other hk _ _ _, setCells_size g _ _ _, fun B W hB hb => yG hB _ _ _ hb⟩ hr.all
end
theorem Row.kept {W W' : World} {row : Option Nat} {g : Nat} {k : IntKind} {n : Nat} {f : Nat → Int} {t : TypeId} (h : Row W g k n f t) (hg : W.grownBy W' row) (hrow : ∀ r, row = some r → ∃ o : Obj, W.heap[r]? = some o ∧ o.isCells = false) : Row W' g k n f t :=
  (grownBy_keeps_cells hg hrow h rfl).trans h
theorem KeepsFrom.of_below {B : Nat} {W W' : World} (h : Below W.heap.size W W') : KeepsFrom B W W' :=
  ⟨h.size, fun k o hB hk hc => (h.block k (Array.getElem?_eq_some_iff.1 hk).1).trans hk⟩
theorem KeepsFrom.of_stored {B g : Nat} {W W' : World} {k : IntKind} {n : Nat} {f : Nat → Int} {t : TypeId} (hs : Stored W W' g) (hr : Row W g k n f t) : KeepsFrom B W W' :=
  ⟨Nat.le_of_eq hs.size.symm, fun j o _ hj hc => (hs.other j (by rintro rfl; rw [show W.heap[j]? = _ from hr] at hj; cases hj; cases hc)).trans hj⟩
abbrev IB := Nat × {x : Int // 0 ≤ x ∧ x < 256}
def encIB (x : IB) : Array Value := #[.int .i64 (x.1 : Int), .int .u8 x.2.1]
def bkU (z : Nat → {x : Int // 0 ≤ x ∧ x < 256}) (len : Nat) : Nat → List IB
  | 0 => []
  | k + 1 => bkU z len k ++ [(len - 1 - k, z (len - 1 - k))]
theorem bkU_length (z : Nat → {x : Int // 0 ≤ x ∧ x < 256}) (len : Nat) : ∀ k, (bkU z len k).length = k
  | 0 => rfl
  | k + 1 => by simp [bkU, bkU_length z len k]
def BytesAt (w : World) (a : Option Addr) (len : Nat) (z : Nat → Int) : Prop := (a = none ∧ len = 0) ∨ ∃ x, a = some x ∧ ∀ j, j < len → w.cell? (x.add j) = some (.int .u8 (z j))
theorem add_block (x : Addr) (j : Nat) : (x.add j).block = x.block := by unfold Addr.add; split <;> rfl
theorem BytesAt.below {w w' : World} {B : Nat} {a : Option Addr} {len : Nat} {z : Nat → Int} (h : BytesAt w a len z) (hb : Below B w w') (hB : ∀ x, a = some x → 0 < len → x.block < B) : BytesAt w' a len z := by
  rcases h with h | ⟨x, rfl, h⟩
  · exact .inl h
  · exact .inr ⟨x, rfl, fun j hj => (hb.cell (p := x.add j) (by rw [add_block]; exact hB x rfl (by omega))).trans (h j hj)⟩
theorem BytesAt.lt {w : World} {x : Addr} {len : Nat} {z : Nat → Int} (h : BytesAt w (some x) len z) (hl : 0 < len) : x.block < w.heap.size := by
  rcases h with ⟨h, _⟩ | ⟨y, hy, h⟩
  · cases h
  · cases hy
    have := block_lt_of_cell (h 0 hl)
    rwa [add_block] at this
def KpB (n₀ Bs : Nat) (A B : World) : Prop := Below n₀ A B ∧ B.heap[Bs]? = A.heap[Bs]?
theorem KpB.refl (n₀ Bs : Nat) (A : World) : KpB n₀ Bs A A := ⟨Below.refl _ _, rfl⟩
theorem KpB.trans {n₀ Bs : Nat} {A B C : World} (h : KpB n₀ Bs A B) (k : KpB n₀ Bs B C) : KpB n₀ Bs A C := ⟨h.1.trans k.1, k.2.trans h.2⟩
theorem KpB.cell {n₀ Bs : Nat} {A B : World} (h : KpB n₀ Bs A B) : B.cell? ⟨Bs, 0, none⟩ = A.cell? ⟨Bs, 0, none⟩ := World.cell?_of_block h.2
theorem KpB.b {n₀ Bs : Nat} {w : World} (hn : n₀ ≤ w.heap.size) (hB : Bs < w.heap.size) : ∀ (W : World) (l : Nat) (o o' : Obj), w.heap.size ≤ l → W.heap[l]? = some o → o.isCells = false → o.isWalk = false → KpB n₀ Bs W (W.putObj l o') :=
  fun W l o o' hl ho hc hw => ⟨belowK_b hn W l o o' hl ho hc hw, World.putObj_heap_other (by omega)⟩
set_option maxRecDepth 100000 in
set_option maxHeartbeats 2000000 in
theorem back1_in (F : Fence) (n : Nat) (h7 : F.fn 84) (hro : F.round = none) (hn : 1 ≤ n) (l Bs n₀ len cap : Nat) (x : Addr) (z : Nat → {x : Int // 0 ≤ x ∧ x < 256}) (hreach : len ≤ 140737488351232) (hb : x.block < n₀) (J Jx : List IB → World → Prop)
    (hY : ∀ pre x W, J pre W → pre.length < len → YieldAt F (n - 1) Tryd.prog l (encIB x) W fun e W' =>
      (e = .returned (.bool true) ∧ J (pre ++ [x]) W' ∧ KpB n₀ Bs W W') ∨ (e = .returned (.bool false) ∧ Jx (pre ++ [x]) W'))
    (W : World) (hBs : W.cell? ⟨Bs, 0, none⟩ = some (.slice (some x) len cap)) (hc : ∀ j, j < len → W.cell? (x.add j) = some (.int .u8 (z j).1)) (h0 : J [] W) :
    CallsIn F n Tryd.prog 84 #[.func (.yield l) #[] #[], .pointer (some ⟨Bs, 0, none⟩)] W fun e W' => (∃ v, e = .returned v) ∧
      ((∃ ys, ys = bkU z len len ∧ J ys W') ∨ (∃ pre, True ∧ Jx pre W')) := by
  refine callsIn_of_wp Tryd.func84 rfl h7 ?_ hro
  simp only [Tryd.ntmps84, List.size_toArray, List.length_cons, List.length_nil, Nat.reduceAdd, Nat.reduceSub, Array.replicate_succ, Array.replicate_zero, List.push_toArray, List.append_toArray, List.nil_append, List.cons_append]
  gi_wp2
  gi_loopw [3] (fun i wr => ∃ k : Nat, k ≤ len ∧ i = .int .i64 (((len - k : Nat) : Int) - 1) ∧ J (bkU z len k) wr ∧ KpB n₀ Bs W wr)
    (fun i _ => ((intOf i) + 1).toNat)
  case atStart => exact ⟨0, Nat.zero_le _, by simp, h0, KpB.refl _ _ _⟩
  case round =>
    obtain ⟨k, hk, rfl, hJs, hnx⟩ := hrel
    have hbs := hnx.cell.trans hBs
    by_cases hlt : k < len
    · obtain ⟨j, hj⟩ : ∃ j, len - k = j + 1 := ⟨len - k - 1, by omega⟩
      rw [hj]
      have e1 : ((j + 1 : Nat) : Int) - 1 = (j : Int) := by omega
      rw [e1]
      have hcx := (hnx.1.cell (p := x.add j) (by rw [add_block]; exact hb)).trans (hc j (by omega))
      obtain ⟨fn, tmps, assign, body, hy, hR⟩ := hY _ (j, z j) wr hJs (by rw [bkU_length]; exact hlt)
      dsimp only [encIB] at hy
      have hlt2 : ((j : Int) < (len : Int)) = True := eq_true (by omega)
      have hge : ((j : Int) ≥ 0) = True := eq_true (by omega)
      have e2 : ((j : Int) - 1) = (((len - (k + 1) : Nat) : Int) - 1) := by omega
      have E2 := Aside0.mk e2
      clear e2
      gi_wp2
      refine hR.mono ?_
      rintro e W3 (⟨rfl, hJ3, hk3⟩ | ⟨rfl, hJx3⟩)
      · gi_wp2
        go_roundw
        case rel => exact ⟨k + 1, by omega, by rw [E2.out], by show J (bkU z len k ++ [(len - 1 - k, z (len - 1 - k))]) W3; rw [show len - 1 - k = j by omega]; exact hJ3, hnx.trans hk3⟩
        case measure => simp [intOf] <;> omega
      · gi_wp2
        refine bodyPost_ret (results_none rfl _ _ _) rfl ?_
        exact ⟨⟨_, rfl⟩, .inr ⟨_, trivial, hJx3⟩⟩
    · obtain rfl : k = len := by omega
      rw [Nat.sub_self]
      gi_wp2
      go_end0
      exact ⟨⟨_, rfl⟩, .inl ⟨_, rfl, hJs⟩⟩
set_option maxHeartbeats 1000000 in
theorem back1_nil_in (F : Fence) (n : Nat) (h7 : F.fn 84) (hro : F.round = none) (l Bs cap : Nat) (a : Option Addr) (J : List IB → World → Prop) (W : World) (hBs : W.cell? ⟨Bs, 0, none⟩ = some (.slice a 0 cap)) (h0 : J [] W) :
    CallsIn F n Tryd.prog 84 #[.func (.yield l) #[] #[], .pointer (some ⟨Bs, 0, none⟩)] W fun e W' => (∃ v, e = .returned v) ∧ J [] W' := by
  refine callsIn_of_wp Tryd.func84 rfl h7 ?_ hro
  simp only [Tryd.ntmps84, List.size_toArray, List.length_cons, List.length_nil, Nat.reduceAdd, Nat.reduceSub, Array.replicate_succ, Array.replicate_zero, List.push_toArray, List.append_toArray, List.nil_append, List.cons_append]
  gi_wp2
  gi_loopw [3] (fun i wr => i = .int .i64 (-1) ∧ J [] wr) (fun _ _ => 0)
  case atStart => exact ⟨rfl, h0⟩
  case round =>
    obtain ⟨rfl, hJs⟩ := hrel
    gi_wp2
    go_end0
    exact ⟨⟨_, rfl⟩, hJs⟩
set_option maxHeartbeats 1000000 in
/-- slices.Backward(b): the slice is boxed, the function captures the box. -/
theorem back_in (F : Fence) (n : Nat) (h5 : F.fn 66) (hro : F.round = none) (a : Option Addr) (len cap : Nat) (w : World) :
    CallsIn F n Tryd.prog 66 #[.slice a len cap] w fun e w' => e = .returned (.func (.func 84) #[] #[.pointer (some ⟨w.heap.size, 0, none⟩)]) ∧ w' = w.alloc (.cells #[.slice a len cap] 25) := by
  refine callsIn_of_wp Tryd.func66 rfl h5 ?_ hro
  simp only [Tryd.ntmps66, List.size_toArray, List.length_cons, List.length_nil, Nat.reduceAdd, Nat.reduceSub, Array.replicate_succ, Array.replicate_zero, List.push_toArray, List.append_toArray, List.nil_append, List.cons_append]
  gi_wp2
  go_ret
  exact ⟨rfl, rfl⟩
theorem back_stops (F : Fence) (n : Nat) (h7 : F.fn 84) (hro : F.round = none) (hn : 1 ≤ n) (Bs n₀ len cap : Nat) (a : Option Addr) (z : Nat → {x : Int // 0 ≤ x ∧ x < 256}) (hreach : len ≤ 140737488351232) (w : World) (hBs : Bs < w.heap.size) (hn₀ : n₀ ≤ w.heap.size)
    (hc : w.cell? ⟨Bs, 0, none⟩ = some (.slice a len cap)) (hI : BytesAt w a len (fun j => (z j).1)) (hlo : ∀ x, a = some x → 0 < len → x.block < n₀) :
    SeqStopsK F n Tryd.prog 84 #[.pointer (some ⟨Bs, 0, none⟩)] encIB (KpB n₀ Bs) (fun ys => ys = bkU z len len) (fun _ => True) len w := fun l J Jx W hW _ _ hY h0 => by
  have hc' := (hW.cell (p := ⟨Bs, 0, none⟩) hBs).trans hc
  by_cases h : 0 < len
  · rcases hI with ⟨_, h9⟩ | ⟨x, rfl, hcs⟩
    · omega
    · exact back1_in F n h7 hro hn l Bs n₀ len cap x z hreach (hlo x rfl h) J Jx hY W hc' (fun j hj => (hW.cell (p := x.add j) (by rw [add_block]; have := hlo x rfl h; omega)).trans (hcs j hj)) h0
  · obtain rfl : len = 0 := by omega
    exact (back1_nil_in F n h7 hro l Bs cap a J W hc' h0).mono fun e W' ⟨he, hj⟩ => ⟨he, .inl ⟨_, rfl, hj⟩⟩
end Go.Proofs.YtbmnkchcekacfaaDoor.P
end
