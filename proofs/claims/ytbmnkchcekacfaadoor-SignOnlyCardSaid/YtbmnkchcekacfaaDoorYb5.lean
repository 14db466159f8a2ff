/- Merged of the texts: Hb, He, Sh, Si, Sj, Sk, Sw, Iz, Hd, Hc, Hl, Hm, WSized (trim.py). -/
import Derived.Lib.ConvBytes
import Derived.SizedLaws
import Derived.ChangeSlices
import Derived.Test.YtbmnkchcekacfaaDoorYb4
section
namespace Go.Proofs.YtbmnkchcekacfaaDoor.P
set_option linter.unusedVariables false
set_option linter.unusedSimpArgs false
open Go.RowKit Go.ChangeShapes Go.WideShapes Go.Proofs.YtbmnkchcekacfaaDoorW.PrintWords Go.Proofs.YtbmnkchcekacfaaDoorW.PrintLast Go.Proofs.YtbmnkchcekacfaaDoorW.PrintMore
open Go.Proofs.YtbmnkchcekacfaaDoor.P.Fd
def nmb (z : Nat → Int) (n : Nat) : Nat → Int := dig 256 (val 256 (Dg.dg z n) 64 % LL)
theorem nmb_By (z : Nat → Int) (n : Nat) : Fd.By (nmb z n) := dig_By _
theorem nmb_congr {z z' : Nat → Int} {n : Nat} (h : ∀ j, j < n → z j = z' j) : nmb z n = nmb z' n := by unfold nmb; rw [Dg.dg_congr h]
def cat2 (n : Nat) (f m : Nat → Int) : Nat → Int := fun j => if j < n then f j else m (j - n)
def cat3 (f g m : Nat → Int) : Nat → Int := fun j => if j < 32 then f j else if j < 64 then g (j - 32) else m (j - 64)
theorem secA_By (z : Nat → Int) : Fd.By (secA z) := fun j hj => by
  have hD : ∀ j, 0 ≤ Dg.dg z 32 j ∧ Dg.dg z 32 j < 256 := fun j => Dg.dg_b z 32 j
  have hb : ∀ n m : Fin 256, 0 ≤ Go.bits .and .u8 (n.val : Int) 248 ∧ Go.bits .and .u8 (n.val : Int) 248 < 256 ∧ 0 ≤ Go.bits .or .u8 (Go.bits .and .u8 (n.val : Int) 127) 64 ∧ Go.bits .or .u8 (Go.bits .and .u8 (n.val : Int) 127) 64 < 256 := by
    intro n m
    revert n
    decide +kernel
  have key : ∀ x : Int, 0 ≤ x ∧ x < 256 → (0 ≤ Go.bits .and .u8 x 248 ∧ Go.bits .and .u8 x 248 < 256) ∧ 0 ≤ Go.bits .or .u8 (Go.bits .and .u8 x 127) 64 ∧ Go.bits .or .u8 (Go.bits .and .u8 x 127) 64 < 256 := by
    intro x hx
    have := hb ⟨x.toNat, by omega⟩ ⟨0, by omega⟩
    simp only [Int.toNat_of_nonneg hx.1] at this
    exact ⟨⟨this.1, this.2.1⟩, this.2.2⟩
  have hY : ∀ j, 0 ≤ upd (Dg.dg z 32) 0 (Go.bits .and .u8 (Dg.dg z 32 0) 248) j ∧ upd (Dg.dg z 32) 0 (Go.bits .and .u8 (Dg.dg z 32 0) 248) j < 256 := by
    intro j
    unfold upd
    split
    · exact (key _ (hD 0)).1
    · exact hD j
  unfold secA
  generalize upd (Dg.dg z 32) 0 (Go.bits .and .u8 (Dg.dg z 32 0) 248) = Y at hY ⊢
  unfold upd
  split
  · exact (key _ (hY 31)).2
  · exact hY j
theorem prefP_By (z : Nat → Int) : Fd.By (prefP z) := fun j _ => Dg.dg_b z 32 _
theorem halves_as {z A P : Nat → Int} (hA : secA z = A) (hP : prefP z = P) (w : World) (ht : Dg.Tab w) (hz : Fd.By z) : Calls Tryd.prog 16 #[.agg (FR .u8 32 z)] w fun e w' => e = .returned (.tuple #[.agg (FR .u8 32 A), .agg (FR .u8 32 P)]) ∧ Below w.heap.size w w' := by rw [← hA, ← hP]; exact halves_calls z w ht hz
theorem good_as {s : Nat → Int} {g : Bool} (h : decide (N32 s < LL) = g) (w : World) (ho : Ord w) (hs : Fd.By s) : Calls Tryd.prog 15 #[.agg (FR .u8 32 s)] w fun e w' => e = .returned (.bool g) ∧ Below w.heap.size w w' := by rw [← h]; exact good_calls s w ho hs
noncomputable def pubK (z : Nat → Int) : Nat → Int := ptB (Pt.mul fld zX (NZ (secA z)))
def sigN (z : Nat → Int) (lm : Nat) (zm : Nat → Int) : Nat → Int := nmb (cat2 32 (prefP z) zm) (32 + lm)
noncomputable def sigR (z : Nat → Int) (lm : Nat) (zm : Nat → Int) : Nat → Int := ptB (Pt.mul fld zX (NZ (sigN z lm zm)))
noncomputable def sigK (z : Nat → Int) (lm : Nat) (zm : Nat → Int) : Nat → Int := nmb (cat3 (sigR z lm zm) (pubK z) zm) (64 + lm)
noncomputable def sigS (z : Nat → Int) (lm : Nat) (zm : Nat → Int) : Nat → Int := dig 256 ((N32 (sigK z lm zm) * N32 (secA z) + N32 (sigN z lm zm)) % LL)
noncomputable def sigV (z : Nat → Int) (lm : Nat) (zm : Nat → Int) : Nat → Int := cat2 32 (sigR z lm zm) (sigS z lm zm)
theorem sigV_eq {z zm A P K n R k S : Nat → Int} {lm : Nat} (hA : secA z = A) (hP : prefP z = P) (hK : ptB (Pt.mul fld (zX) (NZ (A))) = K) (hn : nmb (cat2 32 P zm) (32 + lm) = n) (hR : ptB (Pt.mul fld (zX) (NZ (n))) = R) (hk : nmb (cat3 R K zm) (64 + lm) = k) (hS : dig 256 ((N32 k * N32 A + N32 n) % LL) = S) : sigV z lm zm = cat2 32 R S := by
  subst hA hP hK hn hR hk hS
  rfl
theorem sig_row (R S : Nat → Int) : FR .u8 64 (cat2 32 R S) = FR .u8 64 (updR (updR (fun _ => 0) 0 32 R) 32 32 S) := FR_congr _ _ _ _ fun j hj => by
  unfold cat2 updR
  by_cases h : j < 32
  · rw [if_pos h, if_neg (by omega), if_pos (by omega)]; rfl
  · rw [if_neg h, if_pos (by omega)]
noncomputable def verV (a : Nat → Int) (lm : Nat) (zm sg : Nat → Int) : Bool :=
  open Classical in if h : Fd.By a ∧ decOk a = true then decide (N32 (fun j => sg (32 + j)) < LL) && sameRow 32 (ptB (Pt.add fld (Pt.mul fld zX (NZ (fun j => sg (32 + j)))) (Pt.mul fld (decPt a h.1 h.2).neg (NZ (nmb (cat3 sg a zm) (64 + lm)))))) (fun j => sg (0 + j)) else false
theorem verV_no {a zm sg : Nat → Int} {lm : Nat} (h : decOk a = false) : verV a lm zm sg = false := by
  unfold verV
  rw [dif_neg (fun c => by rw [h] at c; exact absurd c.2 (by decide))]
theorem verV_bad {a zm sg s : Nat → Int} {lm : Nat} (hs : (fun j => sg (32 + j)) = s) (hg : decide (N32 s < LL) = false) : verV a lm zm sg = false := by
  unfold verV
  rw [hs, hg]
  split <;> rfl
theorem verV_yes {a zm sg s k E : Nat → Int} {lm : Nat} {Pa : Pt dF} (ha : Fd.By a) (hra : decOk a = true) (hPa : decPt a ha hra = Pa) (hs : (fun j => sg (32 + j)) = s) (hg : decide (N32 s < LL) = true) (hk : nmb (cat3 sg a zm) (64 + lm) = k)
    (hE : ptB (Pt.add fld (Pt.mul fld (zX) (NZ (s))) (Pt.mul fld (Pt.neg (Pa)) (NZ (k)))) = E) : verV a lm zm sg = sameRow 32 E (fun j => sg (0 + j)) := by
  unfold verV
  rw [dif_pos ⟨ha, hra⟩, hs, hg, hPa, hk, hE]
  rfl
def _root_.Go.Proofs.YtbmnkchcekacfaaDoor.P.Dg.Msg (w : World) (am : Option Addr) (lm cm : Nat) (zm : Nat → Int) : Prop := NumsAt .u8 w am lm zm ∧ (am = none → cm = 0) ∧ lm ≤ 100000 ∧ ∀ j, j < lm → 0 ≤ zm j ∧ zm j < 256
theorem cell_slices {w : World} {g : Nat} {cs : Array Value} {t : TypeId} (h : w.heap[g]? = some (.cells cs t (0, 0))) (r : Nat) (v : Value) (hv : cs[r]? = some v) : w.cell? ((⟨g, 0, none⟩ : Addr).add r) = some v := by
  rw [add_at, Nat.zero_add, cell_of_row w g r cs t _ h, hv]
theorem rest2 {P zm n : Nat → Int} {am : Option Addr} {lm cm : Nat} (hn : nmb (cat2 32 P zm) (32 + lm) = n) (w : World) (ht : Dg.Tab w) (ho : Ord w) {g g1 : Nat} {t t1 : TypeId} (hcs : w.heap[g]? = some (.cells #[.slice (some ⟨g1, 0, none⟩) 32 32, .slice am lm cm] t (0, 0))) (h1 : Row w g1 .u8 32 P t1) (hP : Fd.By P) (hM : Dg.Msg w am lm cm zm) :
    Calls Tryd.prog 25 #[.slice (some ⟨g, 0, none⟩) 2 2] w fun e w' => e = .returned (.agg (FR .u8 32 n)) ∧ Below w.heap.size w w' := by
  obtain ⟨m1, m2, m3, m4⟩ := hM
  have h := Dg.rest_pieces ⟨g, 0, none⟩ 2 (fun r => if r = 0 then some ⟨g1, 0, none⟩ else am) (fun r => if r = 0 then 32 else lm) (fun r => if r = 0 then 32 else cm) (fun r => if r = 0 then P else zm) w ht ho (fun r hr => by
    have hr2 : r = 0 ∨ r = 1 := by omega
    rcases hr2 with rfl | rfl
    · exact ⟨cell_slices hcs 0 _ rfl, fun e => (by cases e), h1.numsAt, hP⟩
    · exact ⟨cell_slices hcs 1 _ rfl, m2, m1, m4⟩) (by omega) (by show 0 + 32 + lm ≤ 1000000; omega)
  have e : nmb (Dg.catZ (fun r => if r = 0 then 32 else lm) (fun r => if r = 0 then P else zm) 2) (Dg.catN (fun r => if r = 0 then 32 else lm) 2) = n := by
    rw [← hn, show Dg.catN (fun r => if r = 0 then 32 else lm) 2 = 32 + lm from by show 0 + 32 + lm = 32 + lm; omega]
    refine nmb_congr fun j hj => ?_
    show (if j < 0 + 32 then (if j < 0 then 0 else P (j - 0)) else zm (j - (0 + 32))) = if j < 32 then P j else zm (j - 32)
    rw [Nat.zero_add, Nat.sub_zero, if_neg (Nat.not_lt_zero j)]
  unfold nmb at e
  rw [e] at h
  exact h
theorem rest3 {f1 f2 zm n : Nat → Int} {am : Option Addr} {lm cm c1 : Nat} (hn : nmb (cat3 f1 f2 zm) (64 + lm) = n) (w : World) (ht : Dg.Tab w) (ho : Ord w) {g g1 g2 n1 : Nat} {t t1 t2 : TypeId} (hcs : w.heap[g]? = some (.cells #[.slice (some ⟨g1, 0, none⟩) 32 c1, .slice (some ⟨g2, 0, none⟩) 32 32, .slice am lm cm] t (0, 0))) (h1 : Row w g1 .u8 n1 f1 t1) (hn1 : 32 ≤ n1) (h2 : Row w g2 .u8 32 f2 t2)
    (hf1 : ∀ j, j < 32 → 0 ≤ f1 j ∧ f1 j < 256) (hf2 : Fd.By f2) (hM : Dg.Msg w am lm cm zm) :
    Calls Tryd.prog 25 #[.slice (some ⟨g, 0, none⟩) 3 3] w fun e w' => e = .returned (.agg (FR .u8 32 n)) ∧ Below w.heap.size w w' := by
  obtain ⟨m1, m2, m3, m4⟩ := hM
  have h := Dg.rest_pieces ⟨g, 0, none⟩ 3 (fun r => if r = 0 then some ⟨g1, 0, none⟩ else if r = 1 then some ⟨g2, 0, none⟩ else am) (fun r => if r = 0 then 32 else if r = 1 then 32 else lm) (fun r => if r = 0 then c1 else if r = 1 then 32 else cm) (fun r => if r = 0 then f1 else if r = 1 then f2 else zm) w ht ho (fun r hr => by
    have hr2 : r = 0 ∨ r = 1 ∨ r = 2 := by omega
    rcases hr2 with rfl | rfl | rfl
    · exact ⟨cell_slices hcs 0 _ rfl, fun e => (by cases e), .inr ⟨_, rfl, fun j hj => by rw [add_at, Nat.zero_add]; exact h1.cell j (by have : j < 32 := hj; omega)⟩, hf1⟩
    · exact ⟨cell_slices hcs 1 _ rfl, fun e => (by cases e), h2.numsAt, hf2⟩
    · exact ⟨cell_slices hcs 2 _ rfl, m2, m1, m4⟩) (by omega) (by show 0 + 32 + 32 + lm ≤ 1000000; omega)
  have e : nmb (Dg.catZ (fun r => if r = 0 then 32 else if r = 1 then 32 else lm) (fun r => if r = 0 then f1 else if r = 1 then f2 else zm) 3) (Dg.catN (fun r => if r = 0 then 32 else if r = 1 then 32 else lm) 3) = n := by
    rw [← hn, show Dg.catN (fun r => if r = 0 then 32 else if r = 1 then 32 else lm) 3 = 64 + lm from by show 0 + 32 + 32 + lm = 64 + lm; omega]
    refine nmb_congr fun j hj => ?_
    show (if j < 0 + 32 + 32 then (if j < 0 + 32 then (if j < 0 then 0 else f1 (j - 0)) else f2 (j - (0 + 32))) else zm (j - (0 + 32 + 32))) = if j < 32 then f1 j else if j < 64 then f2 (j - 32) else zm (j - 64)
    rw [Nat.zero_add, Nat.sub_zero, if_neg (Nat.not_lt_zero j)]
    by_cases h3 : j < 32
    · rw [if_pos h3, if_pos h3, if_pos (by omega)]
    · rw [if_neg h3, if_neg h3]
  unfold nmb at e
  rw [e] at h
  exact h
theorem parts3 {ev : Operand → Value} {i j l : Nat} {x y z : Operand} {u v t : Value} (h : ev x = u) (h2 : ev y = v) (h3 : ev z = t) : ((#[(i, x), (j, y), (l, z)] : Array (Nat × Operand)).map fun (i, x) => (i, ev x)) = #[(i, u), (j, v), (l, t)] := by simp [h, h2, h3]
theorem tabpu_2 : rtab .any (opsOf Tryd.f9 2) = (true, [([], []), ([], []), ([0, 1, 0], [0, 1]), ([2, 2], [2]), ([3, 3, 0, 1, 2, 3], [3])]) := by kernel_rfl
theorem bitspu_2 : zS [([], []), ([], []), ([0, 1, 0], [0, 1]), ([2, 2], [2]), ([3, 3, 0, 1, 2, 3], [3])] [0, 0, 3, 7, 15] = true := by kernel_rfl
theorem tabsg_2 : rtab .any (opsOf Tryd.f13 2) = (true, [([], []), ([], []), ([0, 1, 0], [0, 1]), ([2, 2], [2]), ([], []), ([4, 3, 3, 0, 1, 2, 3, 4], [3, 4])]) := by kernel_rfl
theorem bitssg_2 : zS [([], []), ([], []), ([0, 1, 0], [0, 1]), ([2, 2], [2]), ([], []), ([4, 3, 3, 0, 1, 2, 3, 4], [3, 4])] [0, 0, 3, 7, 0, 31] = true := by kernel_rfl
theorem tabsg_4 : rtab .any (opsOf Tryd.f13 4) = (true, [([], []), ([], []), ([0, 1, 0], [0, 1]), ([2, 2], [2]), ([], []), ([4, 3, 3, 0, 1, 2, 3, 4], [3, 4])]) := by kernel_rfl
theorem bitssg_4 : zS [([], []), ([], []), ([0, 1, 0], [0, 1]), ([2, 2], [2]), ([], []), ([4, 3, 3, 0, 1, 2, 3, 4], [3, 4])] [0, 0, 3, 7, 0, 31] = true := by kernel_rfl
theorem tabsg_5 : rtab .any (opsOf Tryd.f13 5) = (true, [([], []), ([], []), ([], []), ([0, 1, 2], [0, 1, 2]), ([3], [3]), ([], []), ([], []), ([4, 5, 6, 4], [4, 5, 6]), ([], []), ([8, 7, 7, 0, 1, 2, 3, 4, 5, 6, 7, 8], [7, 8])]) := by kernel_rfl
theorem bitssg_5 : zS [([], []), ([], []), ([], []), ([0, 1, 2], [0, 1, 2]), ([3], [3]), ([], []), ([], []), ([4, 5, 6, 4], [4, 5, 6]), ([], []), ([8, 7, 7, 0, 1, 2, 3, 4, 5, 6, 7, 8], [7, 8])] [0, 0, 0, 7, 15, 0, 0, 127, 0, 511] = true := by kernel_rfl
theorem tabsg_7 : rtab .any (opsOf Tryd.f13 7) = (true, [([], []), ([], []), ([0, 1], [0, 1])]) := by kernel_rfl
theorem bitssg_7 : zS [([], []), ([], []), ([0, 1], [0, 1])] [0, 0, 3] = true := by kernel_rfl
theorem tabsg_8 : rtab .any (opsOf Tryd.f13 8) = (true, [([], []), ([], []), ([0, 1], [0, 1])]) := by kernel_rfl
theorem bitssg_8 : zS [([], []), ([], []), ([0, 1], [0, 1])] [0, 0, 3] = true := by kernel_rfl
theorem tabvf_5 : rtab .any (opsOf Tryd.f11 5) = (true, [([], []), ([], []), ([], []), ([0, 1, 2], [0, 1, 2]), ([3], [3]), ([], []), ([5, 4, 4, 0, 1, 2, 3, 4, 5], [4, 5])]) := by kernel_rfl
theorem bitsvf_5 : zS [([], []), ([], []), ([], []), ([0, 1, 2], [0, 1, 2]), ([3], [3]), ([], []), ([5, 4, 4, 0, 1, 2, 3, 4, 5], [4, 5])] [0, 0, 0, 7, 15, 0, 63] = true := by kernel_rfl
theorem tabvf_6 : rtab .any (opsOf Tryd.f11 6) = (true, [([], []), ([], []), ([0, 1, 0], [0, 1]), ([], []), ([3, 2], [3]), ([], []), ([4, 5, 4], [4, 5]), ([2, 6, 6], [2, 6]), ([7, 7], [7]), ([], []), ([9], [9]), ([10], [10]), ([8, 11], [8, 11]), ([12, 8, 0, 1, 2, 3, 4, 5, 6, 7, 8, 9, 10, 11, 12], [12])]) := by kernel_rfl
theorem bitsvf_6 : zS [([], []), ([], []), ([0, 1, 0], [0, 1]), ([], []), ([3, 2], [3]), ([], []), ([4, 5, 4], [4, 5]), ([2, 6, 6], [2, 6]), ([7, 7], [7]), ([], []), ([9], [9]), ([10], [10]), ([8, 11], [8, 11]), ([12, 8, 0, 1, 2, 3, 4, 5, 6, 7, 8, 9, 10, 11, 12], [12])] [0, 0, 3, 0, 15, 0, 63, 127, 255, 0, 512, 1536, 4095, 8191] = true := by kernel_rfl
theorem public_calls (z : Nat → Int) (w : World) (hTd : Dg.Tab w) (hT : TabD w) (hz : Fd.By z) : Calls Tryd.prog 9 #[.agg (FR .u8 32 z)] w fun e w' => e = .returned (.agg (FR .u8 32 (pubK z))) ∧ Below w.heap.size w w' := by
  obtain ⟨A_z, hA_z⟩ : ∃ A, secA z = A := ⟨_, rfl⟩
  obtain ⟨P_z, hP_z⟩ : ∃ A, prefP z = A := ⟨_, rfl⟩
  have hAB_z : Fd.By A_z := by rw [← hA_z]; exact secA_By z
  have hPB_z : Fd.By P_z := by rw [← hP_z]; exact prefP_By z
  obtain ⟨K, hK⟩ : ∃ S : Nat → Int, ptB (Pt.mul fld (zX) (NZ (A_z))) = S := ⟨_, rfl⟩
  have hKB : Fd.By K := by rw [← hK]; exact ptB_By _
  have eK : pubK z = K := by rw [← hK, ← hA_z]; rfl
  rw [eK]
  refine enter_ 14 Tryd.func9 rfl rfl (fun a0 hS => ?_)
  have HS0 : Sl a0 14 [(0, .agg (FR .u8 32 z))] := hS
  have HH0 : Held w w [] := Held.first w
  clear hS
  refine wp_seq ?_
  have hLo : LOk [(0, 1, .ptr 0 0), (1, 2, .ptr 1 0)] := lok rfl rfl
  refine zJ (wE := w) (sz := 14) (n := 2) [0, 1] [(1, .ptr 0 0), (2, .ptr 1 0)] _ [⟨0, some 0, none, .u8, 32, z, z, 22⟩, ⟨0, some 1, none, .u8, 32, fun _ => 0, fun _ => 0, 22⟩] rfl (by rfl) HH0 rfl rfl hLo rfl HS0 (slL 0 (d := 0) rfl (slL 1 (d := 1) rfl (trivial))) ?_ ?_
  · show ∀ i ∈ [0, 1], _
    refine zA (zK 0 0 .u8 32 22 none _ _ rfl rfl (fun _ _ _ _ => rfl) rfl hLo rfl rfl rfl rfl (by rfl) (fun b G w hb ho => exec_box rfl (zC rfl (HS0.get 0 rfl)) (by kernel_rfl))) ?_
    refine zA (zK 1 1 .u8 32 22 none _ _ rfl rfl (fun _ _ _ _ => rfl) rfl hLo rfl rfl rfl rfl (by rfl) (fun b G w _ _ => by kernel_rfl)) ?_
    exact zE
  clear hLo
  intro G a1 w1 hS hH
  have HS1 : Sl a1 14 [(1, .pointer (some ⟨(G 0), 0, none⟩)), (2, .pointer (some ⟨(G 1), 0, none⟩))] := hS
  have HH1 : Held w w1 [⟨(G 0), .u8, 32, z, 22⟩, ⟨(G 1), .u8, 32, fun _ => 0, 22⟩] := hH
  clear hS hH HS0 HH0
  generalize G 0 = g1_0 at HS1 HH1
  generalize G 1 = g1_1 at HS1 HH1
  refine then_ ?_
  refine wp_seq ?_
  have hLo : LOk [(0, 6, .val (.agg (FR .u8 32 (z)))), (1, 7, .val (.tuple #[.agg (FR .u8 32 (A_z)), .agg (FR .u8 32 (P_z))])), (2, 5, .val (.tuple #[.agg (FR .u8 32 (A_z)), .agg (FR .u8 32 (P_z))])), (3, 8, .val (.agg (FR .u8 32 (A_z)))), (4, 9, .val (.agg (FR .u8 32 (P_z)))), (5, 3, .ptr 5 0), (6, 4, .ptr 6 0)] := lok rfl rfl
  refine zJ (wE := w) (sz := 14) (n := 9) [0, 1, 3, 7, 15, 31, 63, 127, 255] [(2, .val (.pointer (some ⟨g1_1, 0, none⟩))), (3, .ptr 5 0)] _ [⟨g1_0, none, none, .u8, 32, z, z, 22⟩, ⟨g1_1, none, none, .u8, 32, fun _ => 0, fun _ => 0, 22⟩, ⟨0, some 5, some 7, .u8, 32, fun _ => 0, A_z, 22⟩, ⟨0, some 6, some 8, .u8, 32, fun _ => 0, P_z, 22⟩] rfl (by rfl) HH1 rfl rfl hLo rfl HS1 (slS 1 rfl rfl (slL 5 (d := 5) rfl (trivial))) ?_ ?_
  · show ∀ i ∈ [0, 1, 2, 3, 4, 5, 6, 7, 8], _
    refine zA (zH 0 0 _ rfl rfl rfl rfl (fun _ _ _ _ => rfl) hLo rfl rfl rfl (by rfl) Tryd.underlying22 zP rfl (fun b G hb ho => zC rfl (HS1.get 0 rfl))) ?_
    refine zA (zG 1 _ #[.agg (FR .u8 32 (z))] rfl rfl rfl (fun _ _ _ _ => rfl) hLo rfl rfl Tryd.func16 rfl rfl (fun b G hb ho => args1 (zB hLo 0 rfl HS1.1 rfl (hb 0 (by rfl)))) (fun w hw => halves_as hA_z hP_z w (hTd.to hw) hz)) ?_
    refine zA (zD 2 _ rfl rfl hLo rfl rfl (fun _ _ _ _ => rfl) (fun b G w hb ho => zF (.inl rfl) (zB hLo 1 rfl HS1.1 rfl (hb 1 (by rfl))))) ?_
    refine zA (zD 3 _ rfl rfl hLo rfl rfl (fun _ _ _ _ => rfl) (fun b G w hb ho => exec_extract rfl (zB hLo 2 rfl HS1.1 rfl (hb 2 (by rfl))) (by rfl))) ?_
    refine zA (zD 4 _ rfl rfl hLo rfl rfl (fun _ _ _ _ => rfl) (fun b G w hb ho => exec_extract rfl (zB hLo 2 rfl HS1.1 rfl (hb 2 (by rfl))) (by rfl))) ?_
    refine zA (zK 5 2 .u8 32 22 (some 7) _ _ rfl rfl (fun _ _ _ _ => rfl) rfl hLo rfl rfl rfl rfl (by rfl) (fun b G w _ _ => by kernel_rfl)) ?_
    refine zA (zK 6 3 .u8 32 22 (some 8) _ _ rfl rfl (fun _ _ _ _ => rfl) rfl hLo rfl rfl rfl rfl (by rfl) (fun b G w _ _ => by kernel_rfl)) ?_
    refine zA (zM 2 _ rfl rfl rfl rfl rfl (fun _ _ _ _ => rfl) rfl rfl rfl (by rfl) zP (fun b G hb ho => zB hLo 5 rfl HS1.1 rfl (hb 5 (by rfl))) (fun b G hb ho => zB hLo 3 rfl HS1.1 rfl (hb 3 (by rfl)))) ?_
    refine zA (zM 3 _ rfl rfl rfl rfl rfl (fun _ _ _ _ => rfl) rfl rfl rfl (by rfl) zP (fun b G hb ho => zB hLo 6 rfl HS1.1 rfl (hb 6 (by rfl))) (fun b G hb ho => zB hLo 4 rfl HS1.1 rfl (hb 4 (by rfl)))) ?_
    exact zE
  clear hLo
  intro G a2 w2 hS hH
  have HS2 : Sl a2 14 [(2, .pointer (some ⟨g1_1, 0, none⟩)), (3, .pointer (some ⟨(G 5), 0, none⟩))] := hS
  have HH2 : Held w w2 [⟨g1_0, .u8, 32, z, 22⟩, ⟨g1_1, .u8, 32, fun _ => 0, 22⟩, ⟨(G 5), .u8, 32, A_z, 22⟩, ⟨(G 6), .u8, 32, P_z, 22⟩] := hH
  clear hS hH HS1 HH1
  generalize G 5 = g2_5 at HS2 HH2
  generalize G 6 = g2_6 at HS2 HH2
  refine then_ ?_
  obtain ⟨B1, hB1, rB1⟩ : ∃ S, baseP = S ∧ PRep S (zX) := ⟨_, rfl, base_prep⟩
  obtain ⟨M2, hM2, rM2⟩ : ∃ S, mulP B1 (A_z) = S ∧ PRep S (Pt.mul fld (zX) (NZ (A_z))) := ⟨_, rfl, rB1.mul hAB_z⟩
  refine wp_seq ?_
  have hLo : LOk [(0, 10, .val (.agg (FR .u64 20 (B1)))), (1, 11, .val (.agg (FR .u8 32 (A_z)))), (2, 12, .val (.agg (FR .u64 20 (M2)))), (3, 13, .val (.agg (FR .u8 32 (K))))] := lok rfl rfl
  refine region_ (wE := w) (sz := 14) (n := 5) (B := [0, 0, 3, 7, 15]) [0, 1, 2, 3, 4] [(2, .val (.pointer (some ⟨g1_1, 0, none⟩)))] _ [⟨g1_0, none, none, .u8, 32, z, z, 22⟩, ⟨g1_1, none, some 4, .u8, 32, fun _ => 0, K, 22⟩, ⟨g2_5, none, none, .u8, 32, A_z, A_z, 22⟩, ⟨g2_6, none, none, .u8, 32, P_z, P_z, 22⟩] (by rfl) rfl tabpu_2 bitspu_2 (by kernel_rfl) (by kernel_rfl) HH2 rfl rfl hLo rfl HS2 (slS 0 rfl rfl (trivial)) ?_ ?_
  · show ∀ i ∈ [0, 1, 2, 3, 4], _
    refine zA (zG 0 _ #[] rfl rfl rfl (fun _ _ _ _ => rfl) hLo rfl rfl Tryd.func17 rfl rfl (fun b G hb ho => args0 ) (fun w hw => base_as hB1 w (hT.to hw))) ?_
    refine zA (zH 1 2 _ rfl rfl rfl rfl (fun _ _ _ _ => rfl) hLo rfl rfl rfl (by rfl) Tryd.underlying22 zP rfl (fun b G hb ho => zC rfl (HS2.get 1 rfl))) ?_
    refine zA (zG 2 _ #[.agg (FR .u64 20 (B1)), .agg (FR .u8 32 (A_z))] rfl rfl rfl (fun _ _ _ _ => rfl) hLo rfl rfl Tryd.func18 rfl rfl (fun b G hb ho => args2 (zB hLo 0 rfl HS2.1 rfl (hb 0 (by rfl))) (zB hLo 1 rfl HS2.1 rfl (hb 1 (by rfl)))) (fun w hw => mul_as hM2 w (hT.to hw) rB1.1 hAB_z)) ?_
    refine zA (zG 3 _ #[.agg (FR .u64 20 (M2))] rfl rfl rfl (fun _ _ _ _ => rfl) hLo rfl rfl Tryd.func19 rfl rfl (fun b G hb ho => args1 (zB hLo 2 rfl HS2.1 rfl (hb 2 (by rfl)))) (fun w hw => bytes_as (rM2.bytes.trans hK) w rM2.1)) ?_
    refine zA (zM 1 _ rfl rfl rfl rfl rfl (fun _ _ _ _ => rfl) rfl rfl rfl (by rfl) zP (fun b G hb ho => zC rfl (HS2.get 0 rfl)) (fun b G hb ho => zB hLo 3 rfl HS2.1 rfl (hb 3 (by rfl)))) ?_
    exact zE
  clear hLo
  intro G a3 w3 hS hH
  have HS3 : Sl a3 14 [(2, .pointer (some ⟨g1_1, 0, none⟩))] := hS
  have HH3 : Held w w3 [⟨g1_0, .u8, 32, z, 22⟩, ⟨g1_1, .u8, 32, K, 22⟩, ⟨g2_5, .u8, 32, A_z, 22⟩, ⟨g2_6, .u8, 32, P_z, 22⟩] := hH
  clear hS hH HS2 HH2
  refine then_ ?_
  refine wp_ret ?_
  repeat refine then_ret ?_
  exact b_row rfl HS3.2.1 (HS3.get 0 rfl) (HH3.row 1 rfl) Tryd.underlying22 rfl zP ⟨rfl, HH3.1⟩
theorem sign_calls (z : Nat → Int) (am : Option Addr) (lm cm : Nat) (zm : Nat → Int) (w : World) (hTd : Dg.Tab w) (hT : TabD w) (hO : Ord w) (hz : Fd.By z) (hM : ∀ w', Below w.heap.size w w' → Dg.Msg w' am lm cm zm) : Calls Tryd.prog 13 #[.agg (FR .u8 32 z), .slice am lm cm] w fun e w' => e = .returned (.agg (FR .u8 64 (sigV z lm zm))) ∧ Below w.heap.size w w' := by
  obtain ⟨A_z, hA_z⟩ : ∃ A, secA z = A := ⟨_, rfl⟩
  obtain ⟨P_z, hP_z⟩ : ∃ A, prefP z = A := ⟨_, rfl⟩
  have hAB_z : Fd.By A_z := by rw [← hA_z]; exact secA_By z
  have hPB_z : Fd.By P_z := by rw [← hP_z]; exact prefP_By z
  obtain ⟨K, hK⟩ : ∃ S : Nat → Int, ptB (Pt.mul fld (zX) (NZ (A_z))) = S := ⟨_, rfl⟩
  have hKB : Fd.By K := by rw [← hK]; exact ptB_By _
  obtain ⟨n, hn⟩ : ∃ S : Nat → Int, nmb (cat2 32 P_z zm) (32 + lm) = S := ⟨_, rfl⟩
  have hnB : Fd.By n := by rw [← hn]; exact nmb_By _ _
  obtain ⟨R, hR⟩ : ∃ S : Nat → Int, ptB (Pt.mul fld (zX) (NZ (n))) = S := ⟨_, rfl⟩
  have hRB : Fd.By R := by rw [← hR]; exact ptB_By _
  obtain ⟨k, hk⟩ : ∃ S : Nat → Int, nmb (cat3 R K zm) (64 + lm) = S := ⟨_, rfl⟩
  have hkB : Fd.By k := by rw [← hk]; exact nmb_By _ _
  obtain ⟨S, hS⟩ : ∃ S : Nat → Int, dig 256 ((N32 k * N32 A_z + N32 n) % LL) = S := ⟨_, rfl⟩
  have hSB : Fd.By S := by rw [← hS]; exact dig_By _
  have eV : FR .u8 64 (sigV z lm zm) = FR .u8 64 (updR (updR (fun _ => 0) 0 32 R) 32 32 S) := by rw [sigV_eq hA_z hP_z hK hn hR hk hS]; exact sig_row R S
  rw [eV]
  refine enter_ 44 Tryd.func13 rfl rfl (fun a0 hS => ?_)
  have HS0 : Sl a0 44 [(0, .agg (FR .u8 32 z)), (1, .slice am lm cm)] := hS
  have HH0 : Held w w [] := Held.first w
  clear hS
  refine wp_seq ?_
  have hLo : LOk [(0, 2, .ptr 0 0), (1, 4, .ptr 1 0)] := lok rfl rfl
  refine zJ (wE := w) (sz := 44) (n := 2) [0, 1] [(1, .val (.slice am lm cm)), (2, .ptr 0 0), (4, .ptr 1 0)] _ [⟨0, some 0, none, .u8, 32, z, z, 22⟩, ⟨0, some 1, none, .u8, 64, fun _ => 0, fun _ => 0, 28⟩] rfl (by rfl) HH0 rfl rfl hLo rfl HS0 (slS 1 rfl rfl (slL 0 (d := 0) rfl (slL 1 (d := 1) rfl (trivial)))) ?_ ?_
  · show ∀ i ∈ [0, 1], _
    refine zA (zK 0 0 .u8 32 22 none _ _ rfl rfl (fun _ _ _ _ => rfl) rfl hLo rfl rfl rfl rfl (by rfl) (fun b G w hb ho => exec_box rfl (zC rfl (HS0.get 0 rfl)) (by kernel_rfl))) ?_
    refine zA (zK 1 1 .u8 64 28 none _ _ rfl rfl (fun _ _ _ _ => rfl) rfl hLo rfl rfl rfl rfl (by rfl) (fun b G w _ _ => by kernel_rfl)) ?_
    exact zE
  clear hLo
  intro G a1 w1 hS hH
  have HS1 : Sl a1 44 [(1, .slice am lm cm), (2, .pointer (some ⟨(G 0), 0, none⟩)), (4, .pointer (some ⟨(G 1), 0, none⟩))] := hS
  have HH1 : Held w w1 [⟨(G 0), .u8, 32, z, 22⟩, ⟨(G 1), .u8, 64, fun _ => 0, 28⟩] := hH
  clear hS hH HS0 HH0
  generalize G 0 = g1_0 at HS1 HH1
  generalize G 1 = g1_1 at HS1 HH1
  refine then_ ?_
  refine wp_seq ?_
  have hLo : LOk [(0, 13, .val (.agg (FR .u8 32 (z)))), (1, 14, .val (.tuple #[.agg (FR .u8 32 (A_z)), .agg (FR .u8 32 (P_z))])), (2, 12, .val (.tuple #[.agg (FR .u8 32 (A_z)), .agg (FR .u8 32 (P_z))])), (3, 15, .val (.agg (FR .u8 32 (A_z)))), (4, 16, .val (.agg (FR .u8 32 (P_z)))), (5, 5, .ptr 5 0), (6, 6, .ptr 6 0)] := lok rfl rfl
  refine zJ (wE := w) (sz := 44) (n := 9) [0, 1, 3, 7, 15, 31, 63, 127, 255] [(1, .val (.slice am lm cm)), (4, .val (.pointer (some ⟨g1_1, 0, none⟩))), (5, .ptr 5 0), (6, .ptr 6 0)] _ [⟨g1_0, none, none, .u8, 32, z, z, 22⟩, ⟨g1_1, none, none, .u8, 64, fun _ => 0, fun _ => 0, 28⟩, ⟨0, some 5, some 7, .u8, 32, fun _ => 0, A_z, 22⟩, ⟨0, some 6, some 8, .u8, 32, fun _ => 0, P_z, 22⟩] rfl (by rfl) HH1 rfl rfl hLo rfl HS1 (slS 0 rfl rfl (slS 2 rfl rfl (slL 5 (d := 5) rfl (slL 6 (d := 6) rfl (trivial))))) ?_ ?_
  · show ∀ i ∈ [0, 1, 2, 3, 4, 5, 6, 7, 8], _
    refine zA (zH 0 0 _ rfl rfl rfl rfl (fun _ _ _ _ => rfl) hLo rfl rfl rfl (by rfl) Tryd.underlying22 zP rfl (fun b G hb ho => zC rfl (HS1.get 1 rfl))) ?_
    refine zA (zG 1 _ #[.agg (FR .u8 32 (z))] rfl rfl rfl (fun _ _ _ _ => rfl) hLo rfl rfl Tryd.func16 rfl rfl (fun b G hb ho => args1 (zB hLo 0 rfl HS1.1 rfl (hb 0 (by rfl)))) (fun w hw => halves_as hA_z hP_z w (hTd.to hw) hz)) ?_
    refine zA (zD 2 _ rfl rfl hLo rfl rfl (fun _ _ _ _ => rfl) (fun b G w hb ho => zF (.inl rfl) (zB hLo 1 rfl HS1.1 rfl (hb 1 (by rfl))))) ?_
    refine zA (zD 3 _ rfl rfl hLo rfl rfl (fun _ _ _ _ => rfl) (fun b G w hb ho => exec_extract rfl (zB hLo 2 rfl HS1.1 rfl (hb 2 (by rfl))) (by rfl))) ?_
    refine zA (zD 4 _ rfl rfl hLo rfl rfl (fun _ _ _ _ => rfl) (fun b G w hb ho => exec_extract rfl (zB hLo 2 rfl HS1.1 rfl (hb 2 (by rfl))) (by rfl))) ?_
    refine zA (zK 5 2 .u8 32 22 (some 7) _ _ rfl rfl (fun _ _ _ _ => rfl) rfl hLo rfl rfl rfl rfl (by rfl) (fun b G w _ _ => by kernel_rfl)) ?_
    refine zA (zK 6 3 .u8 32 22 (some 8) _ _ rfl rfl (fun _ _ _ _ => rfl) rfl hLo rfl rfl rfl rfl (by rfl) (fun b G w _ _ => by kernel_rfl)) ?_
    refine zA (zM 2 _ rfl rfl rfl rfl rfl (fun _ _ _ _ => rfl) rfl rfl rfl (by rfl) zP (fun b G hb ho => zB hLo 5 rfl HS1.1 rfl (hb 5 (by rfl))) (fun b G hb ho => zB hLo 3 rfl HS1.1 rfl (hb 3 (by rfl)))) ?_
    refine zA (zM 3 _ rfl rfl rfl rfl rfl (fun _ _ _ _ => rfl) rfl rfl rfl (by rfl) zP (fun b G hb ho => zB hLo 6 rfl HS1.1 rfl (hb 6 (by rfl))) (fun b G hb ho => zB hLo 4 rfl HS1.1 rfl (hb 4 (by rfl)))) ?_
    exact zE
  clear hLo
  intro G a2 w2 hS hH
  have HS2 : Sl a2 44 [(1, .slice am lm cm), (4, .pointer (some ⟨g1_1, 0, none⟩)), (5, .pointer (some ⟨(G 5), 0, none⟩)), (6, .pointer (some ⟨(G 6), 0, none⟩))] := hS
  have HH2 : Held w w2 [⟨g1_0, .u8, 32, z, 22⟩, ⟨g1_1, .u8, 64, fun _ => 0, 28⟩, ⟨(G 5), .u8, 32, A_z, 22⟩, ⟨(G 6), .u8, 32, P_z, 22⟩] := hH
  clear hS hH HS1 HH1
  generalize G 5 = g2_5 at HS2 HH2
  generalize G 6 = g2_6 at HS2 HH2
  refine then_ ?_
  obtain ⟨B3, hB3, rB3⟩ : ∃ S, baseP = S ∧ PRep S (zX) := ⟨_, rfl, base_prep⟩
  obtain ⟨M4, hM4, rM4⟩ : ∃ S, mulP B3 (A_z) = S ∧ PRep S (Pt.mul fld (zX) (NZ (A_z))) := ⟨_, rfl, rB3.mul hAB_z⟩
  refine wp_seq ?_
  have hLo : LOk [(0, 17, .val (.agg (FR .u64 20 (B3)))), (1, 18, .val (.agg (FR .u8 32 (A_z)))), (2, 19, .val (.agg (FR .u64 20 (M4)))), (3, 20, .val (.agg (FR .u8 32 (K)))), (4, 7, .ptr 4 0)] := lok rfl rfl
  refine region_ (wE := w) (sz := 44) (n := 6) (B := [0, 0, 3, 7, 0, 31]) [0, 1, 2, 3, 4, 5] [(1, .val (.slice am lm cm)), (4, .val (.pointer (some ⟨g1_1, 0, none⟩))), (5, .val (.pointer (some ⟨g2_5, 0, none⟩))), (6, .val (.pointer (some ⟨g2_6, 0, none⟩))), (7, .ptr 4 0)] _ [⟨g1_0, none, none, .u8, 32, z, z, 22⟩, ⟨g1_1, none, none, .u8, 64, fun _ => 0, fun _ => 0, 28⟩, ⟨g2_5, none, none, .u8, 32, A_z, A_z, 22⟩, ⟨g2_6, none, none, .u8, 32, P_z, P_z, 22⟩, ⟨0, some 4, some 5, .u8, 32, fun _ => 0, K, 22⟩] (by rfl) rfl tabsg_2 bitssg_2 (by kernel_rfl) (by kernel_rfl) HH2 rfl rfl hLo rfl HS2 (slS 0 rfl rfl (slS 1 rfl rfl (slS 2 rfl rfl (slS 3 rfl rfl (slL 4 (d := 4) rfl (trivial)))))) ?_ ?_
  · show ∀ i ∈ [0, 1, 2, 3, 4, 5], _
    refine zA (zG 0 _ #[] rfl rfl rfl (fun _ _ _ _ => rfl) hLo rfl rfl Tryd.func17 rfl rfl (fun b G hb ho => args0 ) (fun w hw => base_as hB3 w (hT.to hw))) ?_
    refine zA (zH 1 2 _ rfl rfl rfl rfl (fun _ _ _ _ => rfl) hLo rfl rfl rfl (by rfl) Tryd.underlying22 zP rfl (fun b G hb ho => zC rfl (HS2.get 2 rfl))) ?_
    refine zA (zG 2 _ #[.agg (FR .u64 20 (B3)), .agg (FR .u8 32 (A_z))] rfl rfl rfl (fun _ _ _ _ => rfl) hLo rfl rfl Tryd.func18 rfl rfl (fun b G hb ho => args2 (zB hLo 0 rfl HS2.1 rfl (hb 0 (by rfl))) (zB hLo 1 rfl HS2.1 rfl (hb 1 (by rfl)))) (fun w hw => mul_as hM4 w (hT.to hw) rB3.1 hAB_z)) ?_
    refine zA (zG 3 _ #[.agg (FR .u64 20 (M4))] rfl rfl rfl (fun _ _ _ _ => rfl) hLo rfl rfl Tryd.func19 rfl rfl (fun b G hb ho => args1 (zB hLo 2 rfl HS2.1 rfl (hb 2 (by rfl)))) (fun w hw => bytes_as (rM4.bytes.trans hK) w rM4.1)) ?_
    refine zA (zK 4 4 .u8 32 22 (some 5) _ _ rfl rfl (fun _ _ _ _ => rfl) rfl hLo rfl rfl rfl rfl (by rfl) (fun b G w _ _ => by kernel_rfl)) ?_
    refine zA (zM 4 _ rfl rfl rfl rfl rfl (fun _ _ _ _ => rfl) rfl rfl rfl (by rfl) zP (fun b G hb ho => zB hLo 4 rfl HS2.1 rfl (hb 4 (by rfl))) (fun b G hb ho => zB hLo 3 rfl HS2.1 rfl (hb 3 (by rfl)))) ?_
    exact zE
  clear hLo
  intro G a3 w3 hS hH
  have HS3 : Sl a3 44 [(1, .slice am lm cm), (4, .pointer (some ⟨g1_1, 0, none⟩)), (5, .pointer (some ⟨g2_5, 0, none⟩)), (6, .pointer (some ⟨g2_6, 0, none⟩)), (7, .pointer (some ⟨(G 4), 0, none⟩))] := hS
  have HH3 : Held w w3 [⟨g1_0, .u8, 32, z, 22⟩, ⟨g1_1, .u8, 64, fun _ => 0, 28⟩, ⟨g2_5, .u8, 32, A_z, 22⟩, ⟨g2_6, .u8, 32, P_z, 22⟩, ⟨(G 4), .u8, 32, K, 22⟩] := hH
  clear hS hH HS2 HH2
  generalize G 4 = g3_4 at HS3 HH3
  refine then_ ?_
  refine wp_seq ?_
  have hLo : LOk [(0, 21, .val (.slice (some ⟨g2_6, 0, none⟩) 32 32)), (1, 22, .val (.slice am lm cm)), (2, 23, .sl 2 2 2), (3, 24, .val (.agg (FR .u8 32 (n)))), (4, 8, .ptr 4 0)] := lok rfl rfl
  refine plainx_ (wE := w) (sz := 44) (n := 6) [0, 1, 3, 7, 15, 31] [(1, .val (.slice am lm cm)), (4, .val (.pointer (some ⟨g1_1, 0, none⟩))), (5, .val (.pointer (some ⟨g2_5, 0, none⟩))), (7, .val (.pointer (some ⟨g3_4, 0, none⟩))), (8, .ptr 4 0)] _ [⟨g1_0, none, none, .u8, 32, z, z, 22⟩, ⟨g1_1, none, none, .u8, 64, fun _ => 0, fun _ => 0, 28⟩, ⟨g2_5, none, none, .u8, 32, A_z, A_z, 22⟩, ⟨g2_6, none, none, .u8, 32, P_z, P_z, 22⟩, ⟨g3_4, none, none, .u8, 32, K, K, 22⟩, ⟨0, some 4, some 5, .u8, 32, fun _ => 0, n, 22⟩] [⟨2, #[.slice (some ⟨g2_6, 0, none⟩) 32 32, .slice am lm cm], 25⟩] rfl (by rfl) HH3 rfl rfl hLo rfl HS3 (slS 0 rfl rfl (slS 1 rfl rfl (slS 2 rfl rfl (slS 4 rfl rfl (slL 4 (d := 4) rfl (trivial)))))) ?_ ?_
  · show ∀ i ∈ [0, 1, 2, 3, 4, 5], _
    refine zA (sx_run 0 _ rfl rfl hLo rfl rfl rfl (fun _ _ _ _ => rfl) (fun b G w hb ho => exec_slice rfl (zC rfl (HS3.get 3 rfl)) rfl rfl rfl (slc_32_0_32 _ _))) ?_
    refine zA (sx_run 1 _ rfl rfl hLo rfl rfl rfl (fun _ _ _ _ => rfl) (fun b G w hb ho => zF (.inl rfl) (zC rfl (HS3.get 0 rfl)))) ?_
    refine zA (sx_mk 2 0 _ rfl rfl (fun _ _ _ _ => rfl) rfl rfl hLo rfl rfl rfl rfl (fun b G w hb ho => exec_buildSlice rfl (parts2 (zB hLo 0 rfl HS3.1 rfl (hb 0 (by rfl))) (zB hLo 1 rfl HS3.1 rfl (hb 1 (by rfl)))) (by kernel_rfl))) ?_
    refine zA (sx_callC 3 _ _ (fun G => #[.slice (some ⟨G 2, 0, none⟩) 2 2]) List.mem_cons_self rfl rfl rfl (fun _ _ _ _ => rfl) hLo rfl rfl rfl Tryd.func25 rfl rfl (show onB _ _ _ (some 2) = true from rfl) (fun b G hb ho => args1 (zB hLo 2 rfl HS3.1 rfl (hb 2 (by rfl)))) (fun G w hw hR hcs => rest2 hn w (hTd.to hw) (hO.to hw) hcs ((show Old _ w from hR).at 3 rfl) hPB_z (hM w hw))) ?_
    refine zA (sx_alloc 4 5 .u8 32 22 (some 5) _ _ rfl rfl (fun _ _ _ _ => rfl) rfl hLo rfl rfl rfl rfl rfl (by rfl) (fun b G w _ _ => by kernel_rfl)) ?_
    refine zA (sx_store 5 _ rfl rfl rfl rfl rfl (fun _ _ _ _ => rfl) rfl rfl rfl rfl (by rfl) zP (fun b G hb ho => zB hLo 4 rfl HS3.1 rfl (hb 4 (by rfl))) (fun b G hb ho => zB hLo 3 rfl HS3.1 rfl (hb 3 (by rfl)))) ?_
    exact zE
  clear hLo
  intro G a4 w4 hS hH
  have HS4 : Sl a4 44 [(1, .slice am lm cm), (4, .pointer (some ⟨g1_1, 0, none⟩)), (5, .pointer (some ⟨g2_5, 0, none⟩)), (7, .pointer (some ⟨g3_4, 0, none⟩)), (8, .pointer (some ⟨(G 4), 0, none⟩))] := hS
  have HH4 : Held w w4 [⟨g1_0, .u8, 32, z, 22⟩, ⟨g1_1, .u8, 64, fun _ => 0, 28⟩, ⟨g2_5, .u8, 32, A_z, 22⟩, ⟨g2_6, .u8, 32, P_z, 22⟩, ⟨g3_4, .u8, 32, K, 22⟩, ⟨(G 4), .u8, 32, n, 22⟩] := hH
  clear hS hH HS3 HH3
  generalize G 4 = g4_4 at HS4 HH4
  refine then_ ?_
  obtain ⟨M5, hM5, rM5⟩ : ∃ S, mulP B3 (n) = S ∧ PRep S (Pt.mul fld (zX) (NZ (n))) := ⟨_, rfl, rB3.mul hnB⟩
  refine wp_seq ?_
  have hLo : LOk [(0, 25, .val (.agg (FR .u64 20 (B3)))), (1, 26, .val (.agg (FR .u8 32 (n)))), (2, 27, .val (.agg (FR .u64 20 (M5)))), (3, 28, .val (.agg (FR .u8 32 (R)))), (4, 9, .ptr 4 0)] := lok rfl rfl
  refine region_ (wE := w) (sz := 44) (n := 6) (B := [0, 0, 3, 7, 0, 31]) [0, 1, 2, 3, 4, 5] [(1, .val (.slice am lm cm)), (4, .val (.pointer (some ⟨g1_1, 0, none⟩))), (5, .val (.pointer (some ⟨g2_5, 0, none⟩))), (7, .val (.pointer (some ⟨g3_4, 0, none⟩))), (8, .val (.pointer (some ⟨g4_4, 0, none⟩))), (9, .ptr 4 0)] _ [⟨g1_0, none, none, .u8, 32, z, z, 22⟩, ⟨g1_1, none, none, .u8, 64, fun _ => 0, fun _ => 0, 28⟩, ⟨g2_5, none, none, .u8, 32, A_z, A_z, 22⟩, ⟨g2_6, none, none, .u8, 32, P_z, P_z, 22⟩, ⟨g3_4, none, none, .u8, 32, K, K, 22⟩, ⟨g4_4, none, none, .u8, 32, n, n, 22⟩, ⟨0, some 4, some 5, .u8, 32, fun _ => 0, R, 22⟩] (by rfl) rfl tabsg_4 bitssg_4 (by kernel_rfl) (by kernel_rfl) HH4 rfl rfl hLo rfl HS4 (slS 0 rfl rfl (slS 1 rfl rfl (slS 2 rfl rfl (slS 3 rfl rfl (slS 4 rfl rfl (slL 4 (d := 4) rfl (trivial))))))) ?_ ?_
  · show ∀ i ∈ [0, 1, 2, 3, 4, 5], _
    refine zA (zG 0 _ #[] rfl rfl rfl (fun _ _ _ _ => rfl) hLo rfl rfl Tryd.func17 rfl rfl (fun b G hb ho => args0 ) (fun w hw => base_as hB3 w (hT.to hw))) ?_
    refine zA (zH 1 5 _ rfl rfl rfl rfl (fun _ _ _ _ => rfl) hLo rfl rfl rfl (by rfl) Tryd.underlying22 zP rfl (fun b G hb ho => zC rfl (HS4.get 4 rfl))) ?_
    refine zA (zG 2 _ #[.agg (FR .u64 20 (B3)), .agg (FR .u8 32 (n))] rfl rfl rfl (fun _ _ _ _ => rfl) hLo rfl rfl Tryd.func18 rfl rfl (fun b G hb ho => args2 (zB hLo 0 rfl HS4.1 rfl (hb 0 (by rfl))) (zB hLo 1 rfl HS4.1 rfl (hb 1 (by rfl)))) (fun w hw => mul_as hM5 w (hT.to hw) rB3.1 hnB)) ?_
    refine zA (zG 3 _ #[.agg (FR .u64 20 (M5))] rfl rfl rfl (fun _ _ _ _ => rfl) hLo rfl rfl Tryd.func19 rfl rfl (fun b G hb ho => args1 (zB hLo 2 rfl HS4.1 rfl (hb 2 (by rfl)))) (fun w hw => bytes_as (rM5.bytes.trans hR) w rM5.1)) ?_
    refine zA (zK 4 6 .u8 32 22 (some 5) _ _ rfl rfl (fun _ _ _ _ => rfl) rfl hLo rfl rfl rfl rfl (by rfl) (fun b G w _ _ => by kernel_rfl)) ?_
    refine zA (zM 6 _ rfl rfl rfl rfl rfl (fun _ _ _ _ => rfl) rfl rfl rfl (by rfl) zP (fun b G hb ho => zB hLo 4 rfl HS4.1 rfl (hb 4 (by rfl))) (fun b G hb ho => zB hLo 3 rfl HS4.1 rfl (hb 3 (by rfl)))) ?_
    exact zE
  clear hLo
  intro G a5 w5 hS hH
  have HS5 : Sl a5 44 [(1, .slice am lm cm), (4, .pointer (some ⟨g1_1, 0, none⟩)), (5, .pointer (some ⟨g2_5, 0, none⟩)), (7, .pointer (some ⟨g3_4, 0, none⟩)), (8, .pointer (some ⟨g4_4, 0, none⟩)), (9, .pointer (some ⟨(G 4), 0, none⟩))] := hS
  have HH5 : Held w w5 [⟨g1_0, .u8, 32, z, 22⟩, ⟨g1_1, .u8, 64, fun _ => 0, 28⟩, ⟨g2_5, .u8, 32, A_z, 22⟩, ⟨g2_6, .u8, 32, P_z, 22⟩, ⟨g3_4, .u8, 32, K, 22⟩, ⟨g4_4, .u8, 32, n, 22⟩, ⟨(G 4), .u8, 32, R, 22⟩] := hH
  clear hS hH HS4 HH4
  generalize G 4 = g5_4 at HS5 HH5
  refine then_ ?_
  refine wp_seq ?_
  have hLo : LOk [(0, 29, .val (.slice (some ⟨g5_4, 0, none⟩) 32 32)), (1, 30, .val (.slice (some ⟨g3_4, 0, none⟩) 32 32)), (2, 31, .val (.slice am lm cm)), (3, 32, .sl 3 3 3), (4, 33, .val (.agg (FR .u8 32 (k)))), (5, 34, .val (.agg (FR .u8 32 (A_z)))), (6, 35, .val (.agg (FR .u8 32 (n)))), (7, 36, .val (.agg (FR .u8 32 (S)))), (8, 10, .ptr 8 0)] := lok rfl rfl
  refine regionx_ (wE := w) (sz := 44) (n := 10) (B := [0, 0, 0, 7, 15, 0, 0, 127, 0, 511]) [0, 1, 2, 3, 4, 5, 6, 7, 8, 9] [(4, .val (.pointer (some ⟨g1_1, 0, none⟩))), (9, .val (.pointer (some ⟨g5_4, 0, none⟩))), (10, .ptr 8 0)] _ [⟨g1_0, none, none, .u8, 32, z, z, 22⟩, ⟨g1_1, none, none, .u8, 64, fun _ => 0, fun _ => 0, 28⟩, ⟨g2_5, none, none, .u8, 32, A_z, A_z, 22⟩, ⟨g2_6, none, none, .u8, 32, P_z, P_z, 22⟩, ⟨g3_4, none, none, .u8, 32, K, K, 22⟩, ⟨g4_4, none, none, .u8, 32, n, n, 22⟩, ⟨g5_4, none, none, .u8, 32, R, R, 22⟩, ⟨0, some 8, some 9, .u8, 32, fun _ => 0, S, 22⟩] [⟨3, #[.slice (some ⟨g5_4, 0, none⟩) 32 32, .slice (some ⟨g3_4, 0, none⟩) 32 32, .slice am lm cm], 25⟩] (by rfl) rfl tabsg_5 bitssg_5 (by kernel_rfl) (by kernel_rfl) HH5 rfl rfl hLo rfl HS5 (slS 1 rfl rfl (slS 5 rfl rfl (slL 8 (d := 8) rfl (trivial)))) ?_ ?_
  · show ∀ i ∈ [0, 1, 2, 3, 4, 5, 6, 7, 8, 9], _
    refine zA (sx_run 0 _ rfl rfl hLo rfl rfl rfl (fun _ _ _ _ => rfl) (fun b G w hb ho => exec_slice rfl (zC rfl (HS5.get 5 rfl)) rfl rfl rfl (slc_32_0_32 _ _))) ?_
    refine zA (sx_run 1 _ rfl rfl hLo rfl rfl rfl (fun _ _ _ _ => rfl) (fun b G w hb ho => exec_slice rfl (zC rfl (HS5.get 3 rfl)) rfl rfl rfl (slc_32_0_32 _ _))) ?_
    refine zA (sx_run 2 _ rfl rfl hLo rfl rfl rfl (fun _ _ _ _ => rfl) (fun b G w hb ho => zF (.inl rfl) (zC rfl (HS5.get 0 rfl)))) ?_
    refine zA (sx_mk 3 0 _ rfl rfl (fun _ _ _ _ => rfl) rfl rfl hLo rfl rfl rfl rfl (fun b G w hb ho => exec_buildSlice rfl (parts3 (zB hLo 0 rfl HS5.1 rfl (hb 0 (by rfl))) (zB hLo 1 rfl HS5.1 rfl (hb 1 (by rfl))) (zB hLo 2 rfl HS5.1 rfl (hb 2 (by rfl)))) (by kernel_rfl))) ?_
    refine zA (sx_callC 4 _ _ (fun G => #[.slice (some ⟨G 3, 0, none⟩) 3 3]) List.mem_cons_self rfl rfl rfl (fun _ _ _ _ => rfl) hLo rfl rfl rfl Tryd.func25 rfl rfl (show onB _ _ _ (some 3) = true from rfl) (fun b G hb ho => args1 (zB hLo 3 rfl HS5.1 rfl (hb 3 (by rfl)))) (fun G w hw hR hcs => rest3 hk w (hTd.to hw) (hO.to hw) hcs ((show Old _ w from hR).at 6 rfl) (by decide) ((show Old _ w from hR).at 4 rfl) hRB hKB (hM w hw))) ?_
    refine zA (sx_row0 5 2 _ rfl rfl rfl rfl (fun _ _ _ _ => rfl) hLo rfl rfl rfl rfl (by rfl) Tryd.underlying22 zP rfl (fun b G hb ho => zC rfl (HS5.get 2 rfl))) ?_
    refine zA (sx_row0 6 5 _ rfl rfl rfl rfl (fun _ _ _ _ => rfl) hLo rfl rfl rfl rfl (by rfl) Tryd.underlying22 zP rfl (fun b G hb ho => zC rfl (HS5.get 4 rfl))) ?_
    refine zA (sx_call 7 _ #[.agg (FR .u8 32 (k)), .agg (FR .u8 32 (A_z)), .agg (FR .u8 32 (n))] rfl rfl rfl (fun _ _ _ _ => rfl) hLo rfl rfl rfl Tryd.func33 rfl rfl (fun b G hb ho => args3 (zB hLo 4 rfl HS5.1 rfl (hb 4 (by rfl))) (zB hLo 5 rfl HS5.1 rfl (hb 5 (by rfl))) (zB hLo 6 rfl HS5.1 rfl (hb 6 (by rfl)))) (fun w hw => muladd_as hS w (hO.to hw) hkB hAB_z hnB)) ?_
    refine zA (sx_alloc 8 7 .u8 32 22 (some 9) _ _ rfl rfl (fun _ _ _ _ => rfl) rfl hLo rfl rfl rfl rfl rfl (by rfl) (fun b G w _ _ => by kernel_rfl)) ?_
    refine zA (sx_store 7 _ rfl rfl rfl rfl rfl (fun _ _ _ _ => rfl) rfl rfl rfl rfl (by rfl) zP (fun b G hb ho => zB hLo 8 rfl HS5.1 rfl (hb 8 (by rfl))) (fun b G hb ho => zB hLo 7 rfl HS5.1 rfl (hb 7 (by rfl)))) ?_
    exact zE
  clear hLo
  intro G a6 w6 hS hH
  have HS6 : Sl a6 44 [(4, .pointer (some ⟨g1_1, 0, none⟩)), (9, .pointer (some ⟨g5_4, 0, none⟩)), (10, .pointer (some ⟨(G 8), 0, none⟩))] := hS
  have HH6 : Held w w6 [⟨g1_0, .u8, 32, z, 22⟩, ⟨g1_1, .u8, 64, fun _ => 0, 28⟩, ⟨g2_5, .u8, 32, A_z, 22⟩, ⟨g2_6, .u8, 32, P_z, 22⟩, ⟨g3_4, .u8, 32, K, 22⟩, ⟨g4_4, .u8, 32, n, 22⟩, ⟨g5_4, .u8, 32, R, 22⟩, ⟨(G 8), .u8, 32, S, 22⟩] := hH
  clear hS hH HS5 HH5
  generalize G 8 = g6_8 at HS6 HH6
  refine then_ ?_
  refine wp_seq ?_
  have hLo : LOk [(0, 11, .ptr 0 0)] := lok rfl rfl
  refine zJ (wE := w) (sz := 44) (n := 1) [0] [(4, .val (.pointer (some ⟨g1_1, 0, none⟩))), (9, .val (.pointer (some ⟨g5_4, 0, none⟩))), (10, .val (.pointer (some ⟨g6_8, 0, none⟩))), (11, .ptr 0 0)] _ [⟨g1_0, none, none, .u8, 32, z, z, 22⟩, ⟨g1_1, none, none, .u8, 64, fun _ => 0, fun _ => 0, 28⟩, ⟨g2_5, none, none, .u8, 32, A_z, A_z, 22⟩, ⟨g2_6, none, none, .u8, 32, P_z, P_z, 22⟩, ⟨g3_4, none, none, .u8, 32, K, K, 22⟩, ⟨g4_4, none, none, .u8, 32, n, n, 22⟩, ⟨g5_4, none, none, .u8, 32, R, R, 22⟩, ⟨g6_8, none, none, .u8, 32, S, S, 22⟩, ⟨0, some 0, none, .u8, 64, fun _ => 0, fun _ => 0, 28⟩] rfl (by rfl) HH6 rfl rfl hLo rfl HS6 (slS 0 rfl rfl (slS 1 rfl rfl (slS 2 rfl rfl (slL 0 (d := 0) rfl (trivial))))) ?_ ?_
  · show ∀ i ∈ [0], _
    refine zA (zK 0 8 .u8 64 28 none _ _ rfl rfl (fun _ _ _ _ => rfl) rfl hLo rfl rfl rfl rfl (by rfl) (fun b G w _ _ => by kernel_rfl)) ?_
    exact zE
  clear hLo
  intro G a7 w7 hS hH
  have HS7 : Sl a7 44 [(4, .pointer (some ⟨g1_1, 0, none⟩)), (9, .pointer (some ⟨g5_4, 0, none⟩)), (10, .pointer (some ⟨g6_8, 0, none⟩)), (11, .pointer (some ⟨(G 0), 0, none⟩))] := hS
  have HH7 : Held w w7 [⟨g1_0, .u8, 32, z, 22⟩, ⟨g1_1, .u8, 64, fun _ => 0, 28⟩, ⟨g2_5, .u8, 32, A_z, 22⟩, ⟨g2_6, .u8, 32, P_z, 22⟩, ⟨g3_4, .u8, 32, K, 22⟩, ⟨g4_4, .u8, 32, n, 22⟩, ⟨g5_4, .u8, 32, R, 22⟩, ⟨g6_8, .u8, 32, S, 22⟩, ⟨(G 0), .u8, 64, fun _ => 0, 28⟩] := hH
  clear hS hH HS6 HH6
  generalize G 0 = g7_0 at HS7 HH7
  refine then_ ?_
  refine wp_seq ?_
  have hLo : LOk [(0, 37, .val (.slice (some ⟨g7_0, 0, none⟩) 32 64)), (1, 38, .val (.slice (some ⟨g5_4, 0, none⟩) 32 32)), (2, 39, .val (.int .i64 32))] := lok rfl rfl
  refine region_ (wE := w) (sz := 44) (n := 3) (B := [0, 0, 3]) [0, 1, 2] [(4, .val (.pointer (some ⟨g1_1, 0, none⟩))), (10, .val (.pointer (some ⟨g6_8, 0, none⟩))), (11, .val (.pointer (some ⟨g7_0, 0, none⟩)))] _ [⟨g1_0, none, none, .u8, 32, z, z, 22⟩, ⟨g1_1, none, none, .u8, 64, fun _ => 0, fun _ => 0, 28⟩, ⟨g2_5, none, none, .u8, 32, A_z, A_z, 22⟩, ⟨g2_6, none, none, .u8, 32, P_z, P_z, 22⟩, ⟨g3_4, none, none, .u8, 32, K, K, 22⟩, ⟨g4_4, none, none, .u8, 32, n, n, 22⟩, ⟨g5_4, none, none, .u8, 32, R, R, 22⟩, ⟨g6_8, none, none, .u8, 32, S, S, 22⟩, ⟨g7_0, none, some 2, .u8, 64, fun _ => 0, updR (fun _ => 0) 0 32 (R), 28⟩] (by rfl) rfl tabsg_7 bitssg_7 (by kernel_rfl) (by kernel_rfl) HH7 rfl rfl hLo rfl HS7 (slS 0 rfl rfl (slS 2 rfl rfl (slS 3 rfl rfl (trivial)))) ?_ ?_
  · show ∀ i ∈ [0, 1, 2], _
    refine zA (zD 0 _ rfl rfl hLo rfl rfl (fun _ _ _ _ => rfl) (fun b G w hb ho => exec_slice rfl (zC rfl (HS7.get 3 rfl)) rfl rfl rfl (slc_64_0_32 _ _))) ?_
    refine zA (zD 1 _ rfl rfl hLo rfl rfl (fun _ _ _ _ => rfl) (fun b G w hb ho => exec_slice rfl (zC rfl (HS7.get 1 rfl)) rfl rfl rfl (slc_32_0_32 _ _))) ?_
    refine zA (st_cpy 2 8 _ _ rfl rfl rfl rfl (fun _ _ _ _ => rfl) hLo rfl rfl rfl (by rfl) (fun b G w hb ho hr hB hO => copy_row hr (Nat.le_of_ble_eq_true rfl) Tryd.underlying25 Fd.info5s rfl (zB hLo 0 rfl HS7.1 rfl (hb 0 (by rfl))) (zB hLo 1 rfl HS7.1 rfl (hb 1 (by rfl))) (fun j hj => by rw [add_at, Nat.zero_add]; exact (hO.at 6 rfl).cell j hj) (by decide))) ?_
    exact zE
  clear hLo
  intro G a8 w8 hS hH
  have HS8 : Sl a8 44 [(4, .pointer (some ⟨g1_1, 0, none⟩)), (10, .pointer (some ⟨g6_8, 0, none⟩)), (11, .pointer (some ⟨g7_0, 0, none⟩))] := hS
  have HH8 : Held w w8 [⟨g1_0, .u8, 32, z, 22⟩, ⟨g1_1, .u8, 64, fun _ => 0, 28⟩, ⟨g2_5, .u8, 32, A_z, 22⟩, ⟨g2_6, .u8, 32, P_z, 22⟩, ⟨g3_4, .u8, 32, K, 22⟩, ⟨g4_4, .u8, 32, n, 22⟩, ⟨g5_4, .u8, 32, R, 22⟩, ⟨g6_8, .u8, 32, S, 22⟩, ⟨g7_0, .u8, 64, updR (fun _ => 0) 0 32 (R), 28⟩] := hH
  clear hS hH HS7 HH7
  refine then_ ?_
  refine wp_seq ?_
  have hLo : LOk [(0, 40, .val (.slice (some ⟨g7_0, 32, none⟩) 32 32)), (1, 41, .val (.slice (some ⟨g6_8, 0, none⟩) 32 32)), (2, 42, .val (.int .i64 32))] := lok rfl rfl
  refine region_ (wE := w) (sz := 44) (n := 3) (B := [0, 0, 3]) [0, 1, 2] [(4, .val (.pointer (some ⟨g1_1, 0, none⟩))), (11, .val (.pointer (some ⟨g7_0, 0, none⟩)))] _ [⟨g1_0, none, none, .u8, 32, z, z, 22⟩, ⟨g1_1, none, none, .u8, 64, fun _ => 0, fun _ => 0, 28⟩, ⟨g2_5, none, none, .u8, 32, A_z, A_z, 22⟩, ⟨g2_6, none, none, .u8, 32, P_z, P_z, 22⟩, ⟨g3_4, none, none, .u8, 32, K, K, 22⟩, ⟨g4_4, none, none, .u8, 32, n, n, 22⟩, ⟨g5_4, none, none, .u8, 32, R, R, 22⟩, ⟨g6_8, none, none, .u8, 32, S, S, 22⟩, ⟨g7_0, none, some 2, .u8, 64, updR (fun _ => 0) 0 32 (R), updR (updR (fun _ => 0) 0 32 (R)) 32 32 (S), 28⟩] (by rfl) rfl tabsg_8 bitssg_8 (by kernel_rfl) (by kernel_rfl) HH8 rfl rfl hLo rfl HS8 (slS 0 rfl rfl (slS 2 rfl rfl (trivial))) ?_ ?_
  · show ∀ i ∈ [0, 1, 2], _
    refine zA (zD 0 _ rfl rfl hLo rfl rfl (fun _ _ _ _ => rfl) (fun b G w hb ho => exec_slice rfl (zC rfl (HS8.get 2 rfl)) rfl rfl rfl (slc_64_32_64 _ _))) ?_
    refine zA (zD 1 _ rfl rfl hLo rfl rfl (fun _ _ _ _ => rfl) (fun b G w hb ho => exec_slice rfl (zC rfl (HS8.get 1 rfl)) rfl rfl rfl (slc_32_0_32 _ _))) ?_
    refine zA (st_cpy 2 8 _ _ rfl rfl rfl rfl (fun _ _ _ _ => rfl) hLo rfl rfl rfl (by rfl) (fun b G w hb ho hr hB hO => copy_row hr (Nat.le_of_ble_eq_true rfl) Tryd.underlying25 Fd.info5s rfl (zB hLo 0 rfl HS8.1 rfl (hb 0 (by rfl))) (zB hLo 1 rfl HS8.1 rfl (hb 1 (by rfl))) (fun j hj => by rw [add_at, Nat.zero_add]; exact (hO.at 7 rfl).cell j hj) (by decide))) ?_
    exact zE
  clear hLo
  intro G a9 w9 hS hH
  have HS9 : Sl a9 44 [(4, .pointer (some ⟨g1_1, 0, none⟩)), (11, .pointer (some ⟨g7_0, 0, none⟩))] := hS
  have HH9 : Held w w9 [⟨g1_0, .u8, 32, z, 22⟩, ⟨g1_1, .u8, 64, fun _ => 0, 28⟩, ⟨g2_5, .u8, 32, A_z, 22⟩, ⟨g2_6, .u8, 32, P_z, 22⟩, ⟨g3_4, .u8, 32, K, 22⟩, ⟨g4_4, .u8, 32, n, 22⟩, ⟨g5_4, .u8, 32, R, 22⟩, ⟨g6_8, .u8, 32, S, 22⟩, ⟨g7_0, .u8, 64, updR (updR (fun _ => 0) 0 32 (R)) 32 32 (S), 28⟩] := hH
  clear hS hH HS8 HH8
  refine then_ ?_
  refine wp_seq ?_
  have hLo : LOk [(0, 43, .val (.agg (FR .u8 64 (updR (updR (fun _ => 0) 0 32 (R)) 32 32 (S)))))] := lok rfl rfl
  refine zJ (wE := w) (sz := 44) (n := 2) [0, 1] [(4, .val (.pointer (some ⟨g1_1, 0, none⟩)))] _ [⟨g1_0, none, none, .u8, 32, z, z, 22⟩, ⟨g1_1, none, some 1, .u8, 64, fun _ => 0, updR (updR (fun _ => 0) 0 32 (R)) 32 32 (S), 28⟩, ⟨g2_5, none, none, .u8, 32, A_z, A_z, 22⟩, ⟨g2_6, none, none, .u8, 32, P_z, P_z, 22⟩, ⟨g3_4, none, none, .u8, 32, K, K, 22⟩, ⟨g4_4, none, none, .u8, 32, n, n, 22⟩, ⟨g5_4, none, none, .u8, 32, R, R, 22⟩, ⟨g6_8, none, none, .u8, 32, S, S, 22⟩, ⟨g7_0, none, none, .u8, 64, updR (updR (fun _ => 0) 0 32 (R)) 32 32 (S), updR (updR (fun _ => 0) 0 32 (R)) 32 32 (S), 28⟩] rfl (by rfl) HH9 rfl rfl hLo rfl HS9 (slS 0 rfl rfl (trivial)) ?_ ?_
  · show ∀ i ∈ [0, 1], _
    refine zA (zH 0 8 _ rfl rfl rfl rfl (fun _ _ _ _ => rfl) hLo rfl rfl rfl (by rfl) Tryd.underlying28 infoB6 rfl (fun b G hb ho => zC rfl (HS9.get 1 rfl))) ?_
    refine zA (zM 1 _ rfl rfl rfl rfl rfl (fun _ _ _ _ => rfl) rfl rfl rfl (by rfl) infoB6 (fun b G hb ho => zC rfl (HS9.get 0 rfl)) (fun b G hb ho => zB hLo 0 rfl HS9.1 rfl (hb 0 (by rfl)))) ?_
    exact zE
  clear hLo
  intro G a10 w10 hS hH
  have HS10 : Sl a10 44 [(4, .pointer (some ⟨g1_1, 0, none⟩))] := hS
  have HH10 : Held w w10 [⟨g1_0, .u8, 32, z, 22⟩, ⟨g1_1, .u8, 64, updR (updR (fun _ => 0) 0 32 (R)) 32 32 (S), 28⟩, ⟨g2_5, .u8, 32, A_z, 22⟩, ⟨g2_6, .u8, 32, P_z, 22⟩, ⟨g3_4, .u8, 32, K, 22⟩, ⟨g4_4, .u8, 32, n, 22⟩, ⟨g5_4, .u8, 32, R, 22⟩, ⟨g6_8, .u8, 32, S, 22⟩, ⟨g7_0, .u8, 64, updR (updR (fun _ => 0) 0 32 (R)) 32 32 (S), 28⟩] := hH
  clear hS hH HS9 HH9
  refine then_ ?_
  refine wp_ret ?_
  repeat refine then_ret ?_
  exact b_row rfl HS10.2.1 (HS10.get 0 rfl) (HH10.row 1 rfl) Tryd.underlying28 rfl infoB6 ⟨rfl, HH10.1⟩
theorem verify_calls (a : Nat → Int) (am : Option Addr) (lm cm : Nat) (zm sg : Nat → Int) (w : World) (hTd : Dg.Tab w) (hT : TabD w) (hO : Ord w) (ha : Fd.By a) (hsg : ∀ j, j < 64 → 0 ≤ sg j ∧ sg j < 256) (hM : ∀ w', Below w.heap.size w w' → Dg.Msg w' am lm cm zm) : Calls Tryd.prog 11 #[.agg (FR .u8 32 a), .slice am lm cm, .agg (FR .u8 64 sg)] w fun e w' => e = .returned (.bool (verV a lm zm sg)) ∧ Below w.heap.size w w' := by
  obtain ⟨Xa, hXa⟩ : ∃ X, decP a = X := ⟨_, rfl⟩
  obtain ⟨Ya, hYa⟩ : ∃ X, decRP a = X := ⟨_, rfl⟩
  obtain ⟨ra, hra⟩ : ∃ r, decOk a = r := ⟨_, rfl⟩
  have hrra := (decOk_eq ha).symm.trans hra
  obtain ⟨s, hs⟩ : ∃ S : Nat → Int, (fun j => sg (32 + j)) = S := ⟨_, rfl⟩
  have hsB : Fd.By s := fun j hj => by rw [← hs]; exact hsg (32 + j) (by omega)
  obtain ⟨k, hk⟩ : ∃ S : Nat → Int, nmb (cat3 sg a zm) (64 + lm) = S := ⟨_, rfl⟩
  have hkB : Fd.By k := by rw [← hk]; exact nmb_By _ _
  obtain ⟨g, hg⟩ : ∃ g, decide (N32 s < LL) = g := ⟨_, rfl⟩
  refine enter_ 44 Tryd.func11 rfl rfl (fun a0 hS => ?_)
  have HS0 : Sl a0 44 [(0, .agg (FR .u8 32 a)), (1, .slice am lm cm), (2, .agg (FR .u8 64 sg))] := hS
  have HH0 : Held w w [] := Held.first w
  clear hS
  refine wp_seq ?_
  have hLo : LOk [(0, 3, .ptr 0 0), (1, 5, .ptr 1 0), (2, 6, .val (.bool false))] := lok rfl rfl
  refine zJ (wE := w) (sz := 44) (n := 3) [0, 1, 3] [(1, .val (.slice am lm cm)), (3, .ptr 0 0), (5, .ptr 1 0)] _ [⟨0, some 0, none, .u8, 32, a, a, 22⟩, ⟨0, some 1, none, .u8, 64, sg, sg, 28⟩] rfl (by rfl) HH0 rfl rfl hLo rfl HS0 (slS 1 rfl rfl (slL 0 (d := 0) rfl (slL 1 (d := 1) rfl (trivial)))) ?_ ?_
  · show ∀ i ∈ [0, 1, 2], _
    refine zA (zK 0 0 .u8 32 22 none _ _ rfl rfl (fun _ _ _ _ => rfl) rfl hLo rfl rfl rfl rfl (by rfl) (fun b G w hb ho => exec_box rfl (zC rfl (HS0.get 0 rfl)) (by kernel_rfl))) ?_
    refine zA (zK 1 1 .u8 64 28 none _ _ rfl rfl (fun _ _ _ _ => rfl) rfl hLo rfl rfl rfl rfl (by rfl) (fun b G w hb ho => exec_box rfl (zC rfl (HS0.get 2 rfl)) (by kernel_rfl))) ?_
    refine zA (zD 2 _ rfl rfl hLo rfl rfl (fun _ _ _ _ => rfl) (fun b G w hb ho => zF (.inr rfl) (rfl))) ?_
    exact zE
  clear hLo
  intro G a1 w1 hS hH
  have HS1 : Sl a1 44 [(1, .slice am lm cm), (3, .pointer (some ⟨(G 0), 0, none⟩)), (5, .pointer (some ⟨(G 1), 0, none⟩))] := hS
  have HH1 : Held w w1 [⟨(G 0), .u8, 32, a, 22⟩, ⟨(G 1), .u8, 64, sg, 28⟩] := hH
  clear hS hH HS0 HH0
  generalize G 0 = g1_0 at HS1 HH1
  generalize G 1 = g1_1 at HS1 HH1
  refine then_ ?_
  refine wp_seq ?_
  have hLo : LOk [(0, 12, .val (.agg (FR .u8 32 (a)))), (1, 13, .val (.tuple #[.agg (FR .u64 20 (Xa)), .bool ra])), (2, 11, .val (.tuple #[.agg (FR .u64 20 (Xa)), .bool ra])), (3, 14, .val (.agg (FR .u64 20 (Xa)))), (4, 15, .val (.bool ra)), (5, 7, .ptr 5 0), (7, 8, .val (.bool ra))] := lok rfl rfl
  refine zJ (wE := w) (sz := 44) (n := 8) [0, 1, 3, 7, 15, 31, 63, 127] [(1, .val (.slice am lm cm)), (3, .val (.pointer (some ⟨g1_0, 0, none⟩))), (5, .val (.pointer (some ⟨g1_1, 0, none⟩))), (7, .ptr 5 0), (8, .val (.bool ra))] _ [⟨g1_0, none, none, .u8, 32, a, a, 22⟩, ⟨g1_1, none, none, .u8, 64, sg, sg, 28⟩, ⟨0, some 5, some 6, .u64, 20, fun _ => 0, Xa, 42⟩] rfl (by rfl) HH1 rfl rfl hLo rfl HS1 (slS 0 rfl rfl (slS 1 rfl rfl (slS 2 rfl rfl (slL 5 (d := 5) rfl (slL 6 (d := 7) rfl (trivial)))))) ?_ ?_
  · show ∀ i ∈ [0, 1, 2, 3, 4, 5, 6, 7], _
    refine zA (zH 0 0 _ rfl rfl rfl rfl (fun _ _ _ _ => rfl) hLo rfl rfl rfl (by rfl) Tryd.underlying22 zP rfl (fun b G hb ho => zC rfl (HS1.get 1 rfl))) ?_
    refine zA (zG 1 _ #[.agg (FR .u8 32 (a))] rfl rfl rfl (fun _ _ _ _ => rfl) hLo rfl rfl Tryd.func24 rfl rfl (fun b G hb ho => args1 (zB hLo 0 rfl HS1.1 rfl (hb 0 (by rfl)))) (fun w hw => dec_as hXa hra w (hT.to hw) ha)) ?_
    refine zA (zD 2 _ rfl rfl hLo rfl rfl (fun _ _ _ _ => rfl) (fun b G w hb ho => zF (.inl rfl) (zB hLo 1 rfl HS1.1 rfl (hb 1 (by rfl))))) ?_
    refine zA (zD 3 _ rfl rfl hLo rfl rfl (fun _ _ _ _ => rfl) (fun b G w hb ho => exec_extract rfl (zB hLo 2 rfl HS1.1 rfl (hb 2 (by rfl))) (by rfl))) ?_
    refine zA (zD 4 _ rfl rfl hLo rfl rfl (fun _ _ _ _ => rfl) (fun b G w hb ho => exec_extract rfl (zB hLo 2 rfl HS1.1 rfl (hb 2 (by rfl))) (by rfl))) ?_
    refine zA (zK 5 2 .u64 20 42 (some 6) _ _ rfl rfl (fun _ _ _ _ => rfl) rfl hLo rfl rfl rfl rfl (by rfl) (fun b G w _ _ => by kernel_rfl)) ?_
    refine zA (zM 2 _ rfl rfl rfl rfl rfl (fun _ _ _ _ => rfl) rfl rfl rfl (by rfl) infoPt (fun b G hb ho => zB hLo 5 rfl HS1.1 rfl (hb 5 (by rfl))) (fun b G hb ho => zB hLo 3 rfl HS1.1 rfl (hb 3 (by rfl)))) ?_
    refine zA (zD 6 _ rfl rfl hLo rfl rfl (fun _ _ _ _ => rfl) (fun b G w hb ho => zF (.inr rfl) (zB hLo 4 rfl HS1.1 rfl (hb 4 (by rfl))))) ?_
    exact zE
  clear hLo
  intro G a2 w2 hS hH
  have HS2 : Sl a2 44 [(1, .slice am lm cm), (3, .pointer (some ⟨g1_0, 0, none⟩)), (5, .pointer (some ⟨g1_1, 0, none⟩)), (7, .pointer (some ⟨(G 5), 0, none⟩)), (8, .bool ra)] := hS
  have HH2 : Held w w2 [⟨g1_0, .u8, 32, a, 22⟩, ⟨g1_1, .u8, 64, sg, 28⟩, ⟨(G 5), .u64, 20, Xa, 42⟩] := hH
  clear hS hH HS1 HH1
  generalize G 5 = g2_5 at HS2 HH2
  refine then_ ?_
  refine wp_seq ?_
  have hLo : LOk [(0, 16, .val (.slice (some ⟨g1_1, 32, none⟩) 32 32)), (1, 17, .val (.pointer (some ⟨g1_1, 32, none⟩))), (2, 18, .val (.agg (FR .u8 32 (fun j => (sg) (32 + j))))), (3, 9, .ptr 3 0)] := lok rfl rfl
  refine zJ (wE := w) (sz := 44) (n := 5) [0, 1, 3, 7, 15] [(1, .val (.slice am lm cm)), (3, .val (.pointer (some ⟨g1_0, 0, none⟩))), (5, .val (.pointer (some ⟨g1_1, 0, none⟩))), (7, .val (.pointer (some ⟨g2_5, 0, none⟩))), (8, .val (.bool ra)), (9, .ptr 3 0)] _ [⟨g1_0, none, none, .u8, 32, a, a, 22⟩, ⟨g1_1, none, none, .u8, 64, sg, sg, 28⟩, ⟨g2_5, none, none, .u64, 20, Xa, Xa, 42⟩, ⟨0, some 3, some 4, .u8, 32, fun _ => 0, fun j => (sg) (32 + j), 22⟩] rfl (by rfl) HH2 rfl rfl hLo rfl HS2 (slS 0 rfl rfl (slS 1 rfl rfl (slS 2 rfl rfl (slS 3 rfl rfl (slS 4 rfl rfl (slL 3 (d := 3) rfl (trivial))))))) ?_ ?_
  · show ∀ i ∈ [0, 1, 2, 3, 4], _
    refine zA (zD 0 _ rfl rfl hLo rfl rfl (fun _ _ _ _ => rfl) (fun b G w hb ho => exec_slice rfl (zC rfl (HS2.get 2 rfl)) rfl rfl rfl (slc_64_32_64 _ _))) ?_
    refine zA (zD 1 _ rfl rfl hLo rfl rfl (fun _ _ _ _ => rfl) (fun b G w hb ho => exec_toArr rfl (zB hLo 0 rfl HS2.1 rfl (hb 0 (by rfl))) (by kernel_rfl))) ?_
    refine zA (st_load0 2 1 _ 32 32 rfl rfl rfl rfl (fun _ _ _ _ => rfl) hLo rfl rfl rfl (by rfl) (Nat.le_of_ble_eq_true rfl) Tryd.underlying22 zP rfl (fun b G hb ho => zB hLo 1 rfl HS2.1 rfl (hb 1 (by rfl)))) ?_
    refine zA (zK 3 3 .u8 32 22 (some 4) _ _ rfl rfl (fun _ _ _ _ => rfl) rfl hLo rfl rfl rfl rfl (by rfl) (fun b G w _ _ => by kernel_rfl)) ?_
    refine zA (zM 3 _ rfl rfl rfl rfl rfl (fun _ _ _ _ => rfl) rfl rfl rfl (by rfl) zP (fun b G hb ho => zB hLo 3 rfl HS2.1 rfl (hb 3 (by rfl))) (fun b G hb ho => zB hLo 2 rfl HS2.1 rfl (hb 2 (by rfl)))) ?_
    exact zE
  clear hLo
  intro G a3 w3 hS hH
  have HS3 : Sl a3 44 [(1, .slice am lm cm), (3, .pointer (some ⟨g1_0, 0, none⟩)), (5, .pointer (some ⟨g1_1, 0, none⟩)), (7, .pointer (some ⟨g2_5, 0, none⟩)), (8, .bool ra), (9, .pointer (some ⟨(G 3), 0, none⟩))] := hS
  have HH3 : Held w w3 [⟨g1_0, .u8, 32, a, 22⟩, ⟨g1_1, .u8, 64, sg, 28⟩, ⟨g2_5, .u64, 20, Xa, 42⟩, ⟨(G 3), .u8, 32, fun j => (sg) (32 + j), 22⟩] := hH
  clear hS hH HS2 HH2
  generalize G 3 = g3_3 at HS3 HH3
  refine then_ ?_
  rw [hs] at HH3
  cases ra
  · skip
    refine wp_seq ?_
    refine wp_seq ?_
    have hLo : LOk [(0, 19, .val (.bool false)), (1, 20, .val (.bool true)), (2, 21, .val (.bool true)), (3, 22, .val (undef)), (4, 23, .val (undef)), (5, 24, .val (undef)), (6, 25, .val (.bool true))] := lok rfl rfl
    refine zJ (wE := w) (sz := 44) (n := 7) [0, 1, 3, 7, 15, 31, 63] [(25, .val (.bool true))] _ [⟨g1_0, none, none, .u8, 32, a, a, 22⟩, ⟨g1_1, none, none, .u8, 64, sg, sg, 28⟩, ⟨g2_5, none, none, .u64, 20, Xa, Xa, 42⟩, ⟨g3_3, none, none, .u8, 32, s, s, 22⟩] rfl (by rfl) HH3 rfl rfl hLo rfl HS3 (slL 6 (d := 6) rfl (trivial)) ?_ ?_
    · show ∀ i ∈ [0, 1, 2, 3, 4, 5, 6], _
      refine zA (zD 0 _ rfl rfl hLo rfl rfl (fun _ _ _ _ => rfl) (fun b G w hb ho => zF (.inl rfl) (zC rfl (HS3.get 4 rfl)))) ?_
      refine zA (zD 1 _ rfl rfl hLo rfl rfl (fun _ _ _ _ => rfl) (fun b G w hb ho => exec_un rfl (zB hLo 0 rfl HS3.1 rfl (hb 0 (by rfl))) (by rfl))) ?_
      refine zA (zD 2 _ rfl rfl hLo rfl rfl (fun _ _ _ _ => rfl) (fun b G w hb ho => zF (.inl rfl) (zB hLo 1 rfl HS3.1 rfl (hb 1 (by rfl))))) ?_
      refine zA (st_skip 3 rfl rfl hLo rfl rfl (fun b G hb ho => zL rfl rfl rfl HS3.1 rfl (zB hLo 2 rfl HS3.1 rfl (hb 2 (by rfl))) rfl)) ?_
      refine zA (st_skip 4 rfl rfl hLo rfl rfl (fun b G hb ho => zL rfl rfl rfl HS3.1 rfl (zB hLo 2 rfl HS3.1 rfl (hb 2 (by rfl))) rfl)) ?_
      refine zA (st_skip 5 rfl rfl hLo rfl rfl (fun b G hb ho => zL rfl rfl rfl HS3.1 rfl (zB hLo 2 rfl HS3.1 rfl (hb 2 (by rfl))) rfl)) ?_
      refine zA (zD 6 _ rfl rfl hLo rfl rfl (fun _ _ _ _ => rfl) (fun b G w hb ho => exec_pick rfl (zB hLo 2 rfl HS3.1 rfl (hb 2 (by rfl))) (rfl))) ?_
      exact zE
    clear hLo
    intro G a4 w4 hS hH
    have HS4 : Sl a4 44 [(25, .bool true)] := hS
    have HH4 : Held w w4 [⟨g1_0, .u8, 32, a, 22⟩, ⟨g1_1, .u8, 64, sg, 28⟩, ⟨g2_5, .u64, 20, Xa, 42⟩, ⟨g3_3, .u8, 32, s, 22⟩] := hH
    clear hS hH HS3 HH3
    refine then_ ?_
    refine wp_cond_true (HS4.get 0 rfl) ?_
    refine wp_seq ?_
    have hLo : LOk [(0, 6, .val (.bool false))] := lok rfl rfl
    refine zJ (wE := w) (sz := 44) (n := 1) [0] [(6, .val (.bool false))] _ [⟨g1_0, none, none, .u8, 32, a, a, 22⟩, ⟨g1_1, none, none, .u8, 64, sg, sg, 28⟩, ⟨g2_5, none, none, .u64, 20, Xa, Xa, 42⟩, ⟨g3_3, none, none, .u8, 32, s, s, 22⟩] rfl (by rfl) HH4 rfl rfl hLo rfl HS4 (slL 0 (d := 0) rfl (trivial)) ?_ ?_
    · show ∀ i ∈ [0], _
      refine zA (zD 0 _ rfl rfl hLo rfl rfl (fun _ _ _ _ => rfl) (fun b G w hb ho => zF (.inr rfl) (rfl))) ?_
      exact zE
    clear hLo
    intro G a5 w5 hS hH
    have HS5 : Sl a5 44 [(6, .bool false)] := hS
    have HH5 : Held w w5 [⟨g1_0, .u8, 32, a, 22⟩, ⟨g1_1, .u8, 64, sg, 28⟩, ⟨g2_5, .u64, 20, Xa, 42⟩, ⟨g3_3, .u8, 32, s, 22⟩] := hH
    clear hS hH HS4 HH4
    refine then_ ?_
    refine wp_ret ?_
    repeat refine then_ret ?_
    exact b_tmp rfl HS5.2.1 (HS5.get 0 rfl) ⟨by rw [verV_no hra], HH5.1⟩
  · skip
    obtain ⟨Pa, hPa⟩ : ∃ P, decPt a ha hra = P := ⟨_, rfl⟩
    have rXa : PRep Xa Pa := by rw [← hXa, ← hPa]; exact dec_prep ha hra
    have rYa : RRep Ya Pa := by rw [← hYa, ← hPa]; exact dec_rrep ha hra
    cases g
    · skip
      refine wp_seq ?_
      refine wp_seq ?_
      have hLo : LOk [(0, 19, .val (.bool true)), (1, 20, .val (.bool false)), (2, 21, .val (.bool false)), (3, 22, .val (.agg (FR .u8 32 (s)))), (4, 23, .val (.bool false)), (5, 24, .val (.bool true)), (6, 25, .val (.bool true))] := lok rfl rfl
      refine zJ (wE := w) (sz := 44) (n := 7) [0, 1, 3, 7, 15, 31, 63] [(25, .val (.bool true))] _ [⟨g1_0, none, none, .u8, 32, a, a, 22⟩, ⟨g1_1, none, none, .u8, 64, sg, sg, 28⟩, ⟨g2_5, none, none, .u64, 20, Xa, Xa, 42⟩, ⟨g3_3, none, none, .u8, 32, s, s, 22⟩] rfl (by rfl) HH3 rfl rfl hLo rfl HS3 (slL 6 (d := 6) rfl (trivial)) ?_ ?_
      · show ∀ i ∈ [0, 1, 2, 3, 4, 5, 6], _
        refine zA (zD 0 _ rfl rfl hLo rfl rfl (fun _ _ _ _ => rfl) (fun b G w hb ho => zF (.inl rfl) (zC rfl (HS3.get 4 rfl)))) ?_
        refine zA (zD 1 _ rfl rfl hLo rfl rfl (fun _ _ _ _ => rfl) (fun b G w hb ho => exec_un rfl (zB hLo 0 rfl HS3.1 rfl (hb 0 (by rfl))) (by rfl))) ?_
        refine zA (zD 2 _ rfl rfl hLo rfl rfl (fun _ _ _ _ => rfl) (fun b G w hb ho => zF (.inl rfl) (zB hLo 1 rfl HS3.1 rfl (hb 1 (by rfl))))) ?_
        refine zA (zH 3 3 _ rfl rfl rfl rfl (fun b G hb ho => zL rfl rfl rfl HS3.1 rfl (zB hLo 2 rfl HS3.1 rfl (hb 2 (by rfl))) rfl) hLo rfl rfl rfl (by rfl) Tryd.underlying22 zP rfl (fun b G hb ho => zC rfl (HS3.get 5 rfl))) ?_
        refine zA (zG 4 _ #[.agg (FR .u8 32 (s))] rfl rfl rfl (fun b G hb ho => zL rfl rfl rfl HS3.1 rfl (zB hLo 2 rfl HS3.1 rfl (hb 2 (by rfl))) rfl) hLo rfl rfl Tryd.func15 rfl rfl (fun b G hb ho => args1 (zB hLo 3 rfl HS3.1 rfl (hb 3 (by rfl)))) (fun w hw => good_as hg w (hO.to hw) hsB)) ?_
        refine zA (zD 5 _ rfl rfl hLo rfl rfl (fun b G hb ho => zL rfl rfl rfl HS3.1 rfl (zB hLo 2 rfl HS3.1 rfl (hb 2 (by rfl))) rfl) (fun b G w hb ho => exec_un rfl (zB hLo 4 rfl HS3.1 rfl (hb 4 (by rfl))) (by rfl))) ?_
        refine zA (zD 6 _ rfl rfl hLo rfl rfl (fun _ _ _ _ => rfl) (fun b G w hb ho => exec_pick rfl (zB hLo 2 rfl HS3.1 rfl (hb 2 (by rfl))) (zB hLo 5 rfl HS3.1 rfl (hb 5 (by rfl))))) ?_
        exact zE
      clear hLo
      intro G a6 w6 hS hH
      have HS6 : Sl a6 44 [(25, .bool true)] := hS
      have HH6 : Held w w6 [⟨g1_0, .u8, 32, a, 22⟩, ⟨g1_1, .u8, 64, sg, 28⟩, ⟨g2_5, .u64, 20, Xa, 42⟩, ⟨g3_3, .u8, 32, s, 22⟩] := hH
      clear hS hH HS3 HH3
      refine then_ ?_
      refine wp_cond_true (HS6.get 0 rfl) ?_
      refine wp_seq ?_
      have hLo : LOk [(0, 6, .val (.bool false))] := lok rfl rfl
      refine zJ (wE := w) (sz := 44) (n := 1) [0] [(6, .val (.bool false))] _ [⟨g1_0, none, none, .u8, 32, a, a, 22⟩, ⟨g1_1, none, none, .u8, 64, sg, sg, 28⟩, ⟨g2_5, none, none, .u64, 20, Xa, Xa, 42⟩, ⟨g3_3, none, none, .u8, 32, s, s, 22⟩] rfl (by rfl) HH6 rfl rfl hLo rfl HS6 (slL 0 (d := 0) rfl (trivial)) ?_ ?_
      · show ∀ i ∈ [0], _
        refine zA (zD 0 _ rfl rfl hLo rfl rfl (fun _ _ _ _ => rfl) (fun b G w hb ho => zF (.inr rfl) (rfl))) ?_
        exact zE
      clear hLo
      intro G a7 w7 hS hH
      have HS7 : Sl a7 44 [(6, .bool false)] := hS
      have HH7 : Held w w7 [⟨g1_0, .u8, 32, a, 22⟩, ⟨g1_1, .u8, 64, sg, 28⟩, ⟨g2_5, .u64, 20, Xa, 42⟩, ⟨g3_3, .u8, 32, s, 22⟩] := hH
      clear hS hH HS6 HH6
      refine then_ ?_
      refine wp_ret ?_
      repeat refine then_ret ?_
      exact b_tmp rfl HS7.2.1 (HS7.get 0 rfl) ⟨by rw [verV_bad hs hg], HH7.1⟩
    · skip
      refine wp_seq ?_
      refine wp_seq ?_
      have hLo : LOk [(0, 19, .val (.bool true)), (1, 20, .val (.bool false)), (2, 21, .val (.bool false)), (3, 22, .val (.agg (FR .u8 32 (s)))), (4, 23, .val (.bool true)), (5, 24, .val (.bool false)), (6, 25, .val (.bool false))] := lok rfl rfl
      refine zJ (wE := w) (sz := 44) (n := 7) [0, 1, 3, 7, 15, 31, 63] [(1, .val (.slice am lm cm)), (3, .val (.pointer (some ⟨g1_0, 0, none⟩))), (5, .val (.pointer (some ⟨g1_1, 0, none⟩))), (7, .val (.pointer (some ⟨g2_5, 0, none⟩))), (9, .val (.pointer (some ⟨g3_3, 0, none⟩))), (25, .val (.bool false))] _ [⟨g1_0, none, none, .u8, 32, a, a, 22⟩, ⟨g1_1, none, none, .u8, 64, sg, sg, 28⟩, ⟨g2_5, none, none, .u64, 20, Xa, Xa, 42⟩, ⟨g3_3, none, none, .u8, 32, s, s, 22⟩] rfl (by rfl) HH3 rfl rfl hLo rfl HS3 (slS 0 rfl rfl (slS 1 rfl rfl (slS 2 rfl rfl (slS 3 rfl rfl (slS 5 rfl rfl (slL 6 (d := 6) rfl (trivial))))))) ?_ ?_
      · show ∀ i ∈ [0, 1, 2, 3, 4, 5, 6], _
        refine zA (zD 0 _ rfl rfl hLo rfl rfl (fun _ _ _ _ => rfl) (fun b G w hb ho => zF (.inl rfl) (zC rfl (HS3.get 4 rfl)))) ?_
        refine zA (zD 1 _ rfl rfl hLo rfl rfl (fun _ _ _ _ => rfl) (fun b G w hb ho => exec_un rfl (zB hLo 0 rfl HS3.1 rfl (hb 0 (by rfl))) (by rfl))) ?_
        refine zA (zD 2 _ rfl rfl hLo rfl rfl (fun _ _ _ _ => rfl) (fun b G w hb ho => zF (.inl rfl) (zB hLo 1 rfl HS3.1 rfl (hb 1 (by rfl))))) ?_
        refine zA (zH 3 3 _ rfl rfl rfl rfl (fun b G hb ho => zL rfl rfl rfl HS3.1 rfl (zB hLo 2 rfl HS3.1 rfl (hb 2 (by rfl))) rfl) hLo rfl rfl rfl (by rfl) Tryd.underlying22 zP rfl (fun b G hb ho => zC rfl (HS3.get 5 rfl))) ?_
        refine zA (zG 4 _ #[.agg (FR .u8 32 (s))] rfl rfl rfl (fun b G hb ho => zL rfl rfl rfl HS3.1 rfl (zB hLo 2 rfl HS3.1 rfl (hb 2 (by rfl))) rfl) hLo rfl rfl Tryd.func15 rfl rfl (fun b G hb ho => args1 (zB hLo 3 rfl HS3.1 rfl (hb 3 (by rfl)))) (fun w hw => good_as hg w (hO.to hw) hsB)) ?_
        refine zA (zD 5 _ rfl rfl hLo rfl rfl (fun b G hb ho => zL rfl rfl rfl HS3.1 rfl (zB hLo 2 rfl HS3.1 rfl (hb 2 (by rfl))) rfl) (fun b G w hb ho => exec_un rfl (zB hLo 4 rfl HS3.1 rfl (hb 4 (by rfl))) (by rfl))) ?_
        refine zA (zD 6 _ rfl rfl hLo rfl rfl (fun _ _ _ _ => rfl) (fun b G w hb ho => exec_pick rfl (zB hLo 2 rfl HS3.1 rfl (hb 2 (by rfl))) (zB hLo 5 rfl HS3.1 rfl (hb 5 (by rfl))))) ?_
        exact zE
      clear hLo
      intro G a8 w8 hS hH
      have HS8 : Sl a8 44 [(1, .slice am lm cm), (3, .pointer (some ⟨g1_0, 0, none⟩)), (5, .pointer (some ⟨g1_1, 0, none⟩)), (7, .pointer (some ⟨g2_5, 0, none⟩)), (9, .pointer (some ⟨g3_3, 0, none⟩)), (25, .bool false)] := hS
      have HH8 : Held w w8 [⟨g1_0, .u8, 32, a, 22⟩, ⟨g1_1, .u8, 64, sg, 28⟩, ⟨g2_5, .u64, 20, Xa, 42⟩, ⟨g3_3, .u8, 32, s, 22⟩] := hH
      clear hS hH HS3 HH3
      refine then_ ?_
      refine wp_cond_false (HS8.get 5 rfl) ?_
      refine wp_skip ?_
      refine then_ ?_
      refine wp_seq ?_
      have hLo : LOk [(0, 26, .val (.slice (some ⟨g1_1, 0, none⟩) 32 64)), (1, 27, .val (.slice (some ⟨g1_0, 0, none⟩) 32 32)), (2, 28, .val (.slice am lm cm)), (3, 29, .sl 3 3 3), (4, 30, .val (.agg (FR .u8 32 (k)))), (5, 10, .ptr 5 0)] := lok rfl rfl
      refine regionx_ (wE := w) (sz := 44) (n := 7) (B := [0, 0, 0, 7, 15, 0, 63]) [0, 1, 2, 3, 4, 5, 6] [(5, .val (.pointer (some ⟨g1_1, 0, none⟩))), (7, .val (.pointer (some ⟨g2_5, 0, none⟩))), (9, .val (.pointer (some ⟨g3_3, 0, none⟩))), (10, .ptr 5 0)] _ [⟨g1_0, none, none, .u8, 32, a, a, 22⟩, ⟨g1_1, none, none, .u8, 64, sg, sg, 28⟩, ⟨g2_5, none, none, .u64, 20, Xa, Xa, 42⟩, ⟨g3_3, none, none, .u8, 32, s, s, 22⟩, ⟨0, some 5, some 6, .u8, 32, fun _ => 0, k, 22⟩] [⟨3, #[.slice (some ⟨g1_1, 0, none⟩) 32 64, .slice (some ⟨g1_0, 0, none⟩) 32 32, .slice am lm cm], 25⟩] (by rfl) rfl tabvf_5 bitsvf_5 (by kernel_rfl) (by kernel_rfl) HH8 rfl rfl hLo rfl HS8 (slS 2 rfl rfl (slS 3 rfl rfl (slS 4 rfl rfl (slL 5 (d := 5) rfl (trivial))))) ?_ ?_
      · show ∀ i ∈ [0, 1, 2, 3, 4, 5, 6], _
        refine zA (sx_run 0 _ rfl rfl hLo rfl rfl rfl (fun _ _ _ _ => rfl) (fun b G w hb ho => exec_slice rfl (zC rfl (HS8.get 2 rfl)) rfl rfl rfl (slc_64_0_32 _ _))) ?_
        refine zA (sx_run 1 _ rfl rfl hLo rfl rfl rfl (fun _ _ _ _ => rfl) (fun b G w hb ho => exec_slice rfl (zC rfl (HS8.get 1 rfl)) rfl rfl rfl (slc_32_0_32 _ _))) ?_
        refine zA (sx_run 2 _ rfl rfl hLo rfl rfl rfl (fun _ _ _ _ => rfl) (fun b G w hb ho => zF (.inl rfl) (zC rfl (HS8.get 0 rfl)))) ?_
        refine zA (sx_mk 3 0 _ rfl rfl (fun _ _ _ _ => rfl) rfl rfl hLo rfl rfl rfl rfl (fun b G w hb ho => exec_buildSlice rfl (parts3 (zB hLo 0 rfl HS8.1 rfl (hb 0 (by rfl))) (zB hLo 1 rfl HS8.1 rfl (hb 1 (by rfl))) (zB hLo 2 rfl HS8.1 rfl (hb 2 (by rfl)))) (by kernel_rfl))) ?_
        refine zA (sx_callC 4 _ _ (fun G => #[.slice (some ⟨G 3, 0, none⟩) 3 3]) List.mem_cons_self rfl rfl rfl (fun _ _ _ _ => rfl) hLo rfl rfl rfl Tryd.func25 rfl rfl (show onB _ _ _ (some 3) = true from rfl) (fun b G hb ho => args1 (zB hLo 3 rfl HS8.1 rfl (hb 3 (by rfl)))) (fun G w hw hR hcs => rest3 hk w (hTd.to hw) (hO.to hw) hcs ((show Old _ w from hR).at 1 rfl) (by decide) ((show Old _ w from hR).at 0 rfl) (fun j hj => hsg j (by omega)) ha (hM w hw))) ?_
        refine zA (sx_alloc 5 4 .u8 32 22 (some 6) _ _ rfl rfl (fun _ _ _ _ => rfl) rfl hLo rfl rfl rfl rfl rfl (by rfl) (fun b G w _ _ => by kernel_rfl)) ?_
        refine zA (sx_store 4 _ rfl rfl rfl rfl rfl (fun _ _ _ _ => rfl) rfl rfl rfl rfl (by rfl) zP (fun b G hb ho => zB hLo 5 rfl HS8.1 rfl (hb 5 (by rfl))) (fun b G hb ho => zB hLo 4 rfl HS8.1 rfl (hb 4 (by rfl)))) ?_
        exact zE
      clear hLo
      intro G a9 w9 hS hH
      have HS9 : Sl a9 44 [(5, .pointer (some ⟨g1_1, 0, none⟩)), (7, .pointer (some ⟨g2_5, 0, none⟩)), (9, .pointer (some ⟨g3_3, 0, none⟩)), (10, .pointer (some ⟨(G 5), 0, none⟩))] := hS
      have HH9 : Held w w9 [⟨g1_0, .u8, 32, a, 22⟩, ⟨g1_1, .u8, 64, sg, 28⟩, ⟨g2_5, .u64, 20, Xa, 42⟩, ⟨g3_3, .u8, 32, s, 22⟩, ⟨(G 5), .u8, 32, k, 22⟩] := hH
      clear hS hH HS8 HH8
      generalize G 5 = g9_5 at HS9 HH9
      refine then_ ?_
      obtain ⟨E, hE⟩ : ∃ E, ptB (Pt.add fld (Pt.mul fld (zX) (NZ (s))) (Pt.mul fld (Pt.neg (Pa)) (NZ (k)))) = E := ⟨_, rfl⟩
      have hEB : Fd.By E := by rw [← hE]; exact ptB_By _
      obtain ⟨r, hr⟩ : ∃ r, sameRow 32 E (fun j => sg (0 + j)) = r := ⟨_, rfl⟩
      obtain ⟨B6, hB6, rB6⟩ : ∃ S, baseP = S ∧ PRep S (zX) := ⟨_, rfl, base_prep⟩
      obtain ⟨M7, hM7, rM7⟩ : ∃ S, mulP B6 (s) = S ∧ PRep S (Pt.mul fld (zX) (NZ (s))) := ⟨_, rfl, rB6.mul hsB⟩
      obtain ⟨N8, hN8, rN8⟩ : ∃ S, negP Xa = S ∧ PRep S (Pt.neg (Pa)) := ⟨_, rfl, rXa.neg⟩
      obtain ⟨M9, hM9, rM9⟩ : ∃ S, mulP N8 (k) = S ∧ PRep S (Pt.mul fld (Pt.neg (Pa)) (NZ (k))) := ⟨_, rfl, rN8.mul hkB⟩
      obtain ⟨S10, hS10, rS10⟩ : ∃ S, addP M7 M9 = S ∧ PRep S (Pt.add fld (Pt.mul fld (zX) (NZ (s))) (Pt.mul fld (Pt.neg (Pa)) (NZ (k)))) := ⟨_, rfl, rM7.add rM9⟩
      refine wp_seq ?_
      have hLo : LOk [(0, 31, .val (.agg (FR .u64 20 (B6)))), (1, 32, .val (.agg (FR .u8 32 (s)))), (2, 33, .val (.agg (FR .u64 20 (M7)))), (3, 34, .val (.agg (FR .u64 20 (Xa)))), (4, 35, .val (.agg (FR .u64 20 (N8)))), (5, 36, .val (.agg (FR .u8 32 (k)))), (6, 37, .val (.agg (FR .u64 20 (M9)))), (7, 38, .val (.agg (FR .u64 20 (S10)))), (8, 39, .val (.agg (FR .u8 32 (E)))), (9, 40, .val (.slice (some ⟨g1_1, 0, none⟩) 32 64)), (10, 41, .val (.pointer (some ⟨g1_1, 0, none⟩))), (11, 42, .val (.agg (FR .u8 32 (fun j => (sg) (0 + j))))), (12, 43, .val (.bool r)), (13, 6, .val (.bool r))] := lok rfl rfl
      refine region_ (wE := w) (sz := 44) (n := 14) (B := [0, 0, 3, 0, 15, 0, 63, 127, 255, 0, 512, 1536, 4095, 8191]) [0, 1, 2, 3, 4, 5, 6, 7, 8, 9, 10, 11, 12, 13] [(6, .val (.bool r))] _ [⟨g1_0, none, none, .u8, 32, a, a, 22⟩, ⟨g1_1, none, none, .u8, 64, sg, sg, 28⟩, ⟨g2_5, none, none, .u64, 20, Xa, Xa, 42⟩, ⟨g3_3, none, none, .u8, 32, s, s, 22⟩, ⟨g9_5, none, none, .u8, 32, k, k, 22⟩] (by rfl) rfl tabvf_6 bitsvf_6 (by kernel_rfl) (by kernel_rfl) HH9 rfl rfl hLo rfl HS9 (slL 13 (d := 13) rfl (trivial)) ?_ ?_
      · show ∀ i ∈ [0, 1, 2, 3, 4, 5, 6, 7, 8, 9, 10, 11, 12, 13], _
        refine zA (zG 0 _ #[] rfl rfl rfl (fun _ _ _ _ => rfl) hLo rfl rfl Tryd.func17 rfl rfl (fun b G hb ho => args0 ) (fun w hw => base_as hB6 w (hT.to hw))) ?_
        refine zA (zH 1 3 _ rfl rfl rfl rfl (fun _ _ _ _ => rfl) hLo rfl rfl rfl (by rfl) Tryd.underlying22 zP rfl (fun b G hb ho => zC rfl (HS9.get 2 rfl))) ?_
        refine zA (zG 2 _ #[.agg (FR .u64 20 (B6)), .agg (FR .u8 32 (s))] rfl rfl rfl (fun _ _ _ _ => rfl) hLo rfl rfl Tryd.func18 rfl rfl (fun b G hb ho => args2 (zB hLo 0 rfl HS9.1 rfl (hb 0 (by rfl))) (zB hLo 1 rfl HS9.1 rfl (hb 1 (by rfl)))) (fun w hw => mul_as hM7 w (hT.to hw) rB6.1 hsB)) ?_
        refine zA (zH 3 2 _ rfl rfl rfl rfl (fun _ _ _ _ => rfl) hLo rfl rfl rfl (by rfl) Tryd.underlying42 infoPt rfl (fun b G hb ho => zC rfl (HS9.get 1 rfl))) ?_
        refine zA (zG 4 _ #[.agg (FR .u64 20 (Xa))] rfl rfl rfl (fun _ _ _ _ => rfl) hLo rfl rfl Tryd.func27 rfl rfl (fun b G hb ho => args1 (zB hLo 3 rfl HS9.1 rfl (hb 3 (by rfl)))) (fun w hw => ptneg_as hN8 w rXa.1)) ?_
        refine zA (zH 5 4 _ rfl rfl rfl rfl (fun _ _ _ _ => rfl) hLo rfl rfl rfl (by rfl) Tryd.underlying22 zP rfl (fun b G hb ho => zC rfl (HS9.get 3 rfl))) ?_
        refine zA (zG 6 _ #[.agg (FR .u64 20 (N8)), .agg (FR .u8 32 (k))] rfl rfl rfl (fun _ _ _ _ => rfl) hLo rfl rfl Tryd.func18 rfl rfl (fun b G hb ho => args2 (zB hLo 4 rfl HS9.1 rfl (hb 4 (by rfl))) (zB hLo 5 rfl HS9.1 rfl (hb 5 (by rfl)))) (fun w hw => mul_as hM9 w (hT.to hw) rN8.1 hkB)) ?_
        refine zA (zG 7 _ #[.agg (FR .u64 20 (M7)), .agg (FR .u64 20 (M9))] rfl rfl rfl (fun _ _ _ _ => rfl) hLo rfl rfl Tryd.func26 rfl rfl (fun b G hb ho => args2 (zB hLo 2 rfl HS9.1 rfl (hb 2 (by rfl))) (zB hLo 6 rfl HS9.1 rfl (hb 6 (by rfl)))) (fun w hw => add_as hS10 w (hT.to hw) rM7.1 rM9.1)) ?_
        refine zA (zG 8 _ #[.agg (FR .u64 20 (S10))] rfl rfl rfl (fun _ _ _ _ => rfl) hLo rfl rfl Tryd.func19 rfl rfl (fun b G hb ho => args1 (zB hLo 7 rfl HS9.1 rfl (hb 7 (by rfl)))) (fun w hw => bytes_as (rS10.bytes.trans hE) w rS10.1)) ?_
        refine zA (zD 9 _ rfl rfl hLo rfl rfl (fun _ _ _ _ => rfl) (fun b G w hb ho => exec_slice rfl (zC rfl (HS9.get 0 rfl)) rfl rfl rfl (slc_64_0_32 _ _))) ?_
        refine zA (zD 10 _ rfl rfl hLo rfl rfl (fun _ _ _ _ => rfl) (fun b G w hb ho => exec_toArr rfl (zB hLo 9 rfl HS9.1 rfl (hb 9 (by rfl))) (by kernel_rfl))) ?_
        refine zA (st_load0 11 1 _ 0 32 rfl rfl rfl rfl (fun _ _ _ _ => rfl) hLo rfl rfl rfl (by rfl) (Nat.le_of_ble_eq_true rfl) Tryd.underlying22 zP rfl (fun b G hb ho => zB hLo 10 rfl HS9.1 rfl (hb 10 (by rfl)))) ?_
        refine zA (zD 12 _ rfl rfl hLo rfl rfl (fun _ _ _ _ => rfl) (fun b G w hb ho => zV rfl (zB hLo 8 rfl HS9.1 rfl (hb 8 (by rfl))) (zB hLo 11 rfl HS9.1 rfl (hb 11 (by rfl))) (eqB_run hr _ _ _))) ?_
        refine zA (zD 13 _ rfl rfl hLo rfl rfl (fun _ _ _ _ => rfl) (fun b G w hb ho => zF (.inr rfl) (zB hLo 12 rfl HS9.1 rfl (hb 12 (by rfl))))) ?_
        exact zE
      clear hLo
      intro G a10 w10 hS hH
      have HS10 : Sl a10 44 [(6, .bool r)] := hS
      have HH10 : Held w w10 [⟨g1_0, .u8, 32, a, 22⟩, ⟨g1_1, .u8, 64, sg, 28⟩, ⟨g2_5, .u64, 20, Xa, 42⟩, ⟨g3_3, .u8, 32, s, 22⟩, ⟨g9_5, .u8, 32, k, 22⟩] := hH
      clear hS hH HS9 HH9
      refine then_ ?_
      refine wp_ret ?_
      repeat refine then_ret ?_
      exact b_tmp rfl HS10.2.1 (HS10.get 0 rfl) ⟨by rw [verV_yes ha hra hPa hs hg hk hE, ← hr], HH10.1⟩
end Go.Proofs.YtbmnkchcekacfaaDoor.P
end

section
namespace Go.Proofs.YtbmnkchcekacfaaDoor.P
set_option linter.unusedVariables false
set_option linter.unusedSimpArgs false
open Classical in
theorem Pt.zero_neg : (Pt.zero dF).neg = Pt.zero dF := Pt.ext (by decide : -(0 : Fin Fd.PN) = 0) rfl
theorem Pt.neg_mul (P : Pt dF) : ∀ k, P.neg.mul fld k = (P.mul fld k).neg
  | 0 => Pt.zero_neg.symm
  | k + 1 => by
    show (P.neg.mul fld k).add fld P.neg = ((P.mul fld k).add fld P).neg
    rw [Pt.neg_mul P k, Pt.neg_add]
theorem Pt.undo (P Q : Pt dF) : (P.add fld Q).add fld P.neg = Q := by rw [Pt.comm fld P Q, Pt.assoc, Pt.add_neg, Pt.add_zero]
theorem cat2_lo {n : Nat} {f m : Nat → Int} {j : Nat} (h : j < n) : cat2 n f m j = f j := if_pos h
theorem cat2_hi (f m : Nat → Int) : (fun j => cat2 32 f m (32 + j)) = m := by
  funext j
  unfold cat2
  rw [if_neg (by omega)]
  congr 1; omega
theorem cat3_lo {sg R K zm : Nat → Int} (h : ∀ j, j < 32 → sg j = R j) : cat3 sg K zm = cat3 R K zm := by
  funext j
  unfold cat3
  by_cases h1 : j < 32
  · rw [if_pos h1, if_pos h1, h j h1]
  · rw [if_neg h1, if_neg h1]
theorem pub_dec {z K : Nat → Int} (hK : pubK z = K) (hB : Fd.By K) : ∃ ok : decOk K = true, decPt K hB ok = zX.mul fld (NZ (secA z)) := dec_of hB (fun j _ => by rw [← hK]; rfl)
theorem sig_mul {k A n S : Nat → Int} (hk : Fd.By k) (hA : Fd.By A) (hn : Fd.By n) (h : dig 256 ((N32 k * N32 A + N32 n) % LL) = S) : zX.mul fld (NZ S) = ((zX.mul fld (NZ A)).mul fld (NZ k)).add fld (zX.mul fld (NZ n)) := by
  have e1 : N32 k = (NZ k : Int) := (N32_nn hk).1
  have e2 : N32 A = (NZ A : Int) := (N32_nn hA).1
  have e3 : N32 n = (NZ n : Int) := (N32_nn hn).1
  rw [← h, e1, e2, e3, ← Int.natCast_mul, ← Int.natCast_add, NZ_dig (Int.natCast_nonneg _), order_mod]
  show zX.mul fld (NZ k * NZ A + NZ n) = _
  rw [Pt.mul_add, Nat.mul_comm, Pt.mul_mul]
theorem S_lt (x : Int) : N32 (dig 256 (x % LL)) < LL := by
  have e : N32 (dig 256 (x % LL)) = x % LL := Fd.N32_dig _ (modLL_b x)
  rw [e]
  exact Int.emod_lt_of_pos x (by decide)
theorem ver_of {z zm sg A P K n R k : Nat → Int} {lm : Nat} (hA : secA z = A) (hK : pubK z = K) (hn : sigN z lm zm = n) (hR : sigR z lm zm = R) (hk : sigK z lm zm = k) (hKB : Fd.By K) (hAB : Fd.By A) (hnB : Fd.By n) (hkB : Fd.By k) (h : ∀ j, j < 32 → sg j = R j) :
    verV K lm zm sg = (decide (N32 (fun j => sg (32 + j)) < LL) && sameRow 32 (ptB ((zX.mul fld (NZ (fun j => sg (32 + j)))).add fld ((zX.mul fld (NZ A)).mul fld (NZ k)).neg)) (fun j => sg (0 + j))) := by
  obtain ⟨ok, e⟩ := pub_dec hK hKB
  unfold verV
  rw [dif_pos ⟨hKB, ok⟩]
  have e2 : nmb (cat3 sg K zm) (64 + lm) = k := by rw [← hk, cat3_lo h, ← hR, ← hK]; rfl
  rw [e2, e, hA, Pt.neg_mul]
theorem R_pt {z zm n R : Nat → Int} {lm : Nat} (hn : sigN z lm zm = n) (hR : sigR z lm zm = R) : R = ptB (zX.mul fld (NZ n)) := by rw [← hR, ← hn]; rfl
theorem sign_ver {z zm : Nat → Int} {lm : Nat} : verV (pubK z) lm zm (sigV z lm zm) = true := by
  obtain ⟨A, hA⟩ : ∃ V, secA z = V := ⟨_, rfl⟩
  obtain ⟨K, hK⟩ : ∃ V, pubK z = V := ⟨_, rfl⟩
  obtain ⟨n, hn⟩ : ∃ V, sigN z lm zm = V := ⟨_, rfl⟩
  obtain ⟨R, hR⟩ : ∃ V, sigR z lm zm = V := ⟨_, rfl⟩
  obtain ⟨k, hk⟩ : ∃ V, sigK z lm zm = V := ⟨_, rfl⟩
  obtain ⟨S, hS⟩ : ∃ V, dig 256 ((N32 k * N32 A + N32 n) % LL) = V := ⟨_, rfl⟩
  have hAB : Fd.By A := by rw [← hA]; exact secA_By z
  have hKB : Fd.By K := by rw [← hK]; exact ptB_By _
  have hnB : Fd.By n := by rw [← hn]; exact nmb_By _ _
  have hkB : Fd.By k := by rw [← hk]; exact nmb_By _ _
  have eS : sigS z lm zm = S := by rw [← hS, ← hk, ← hA, ← hn]; rfl
  have eV : sigV z lm zm = cat2 32 R S := by rw [← hR, ← eS]; rfl
  rw [hK, eV, ver_of (P := A) hA hK hn hR hk hKB hAB hnB hkB (fun j hj => cat2_lo hj), cat2_hi, sig_mul hkB hAB hnB hS, Pt.undo, R_pt hn hR, Bool.and_eq_true]
  constructor
  · rw [← hS]; exact decide_eq_true (S_lt _)
  · rw [sameRow_iff]
    intro j hj
    rw [Nat.zero_add, cat2_lo hj]
theorem sign_only {z zm o : Nat → Int} {lm : Nat} (ho : Fd.By o) (hv : verV (pubK z) lm zm (cat2 32 (sigR z lm zm) o) = true) : ∀ j, j < 64 → cat2 32 (sigR z lm zm) o j = sigV z lm zm j := by
  obtain ⟨A, hA⟩ : ∃ V, secA z = V := ⟨_, rfl⟩
  obtain ⟨K, hK⟩ : ∃ V, pubK z = V := ⟨_, rfl⟩
  obtain ⟨n, hn⟩ : ∃ V, sigN z lm zm = V := ⟨_, rfl⟩
  obtain ⟨R, hR⟩ : ∃ V, sigR z lm zm = V := ⟨_, rfl⟩
  obtain ⟨k, hk⟩ : ∃ V, sigK z lm zm = V := ⟨_, rfl⟩
  obtain ⟨S, hS⟩ : ∃ V, dig 256 ((N32 k * N32 A + N32 n) % LL) = V := ⟨_, rfl⟩
  have hAB : Fd.By A := by rw [← hA]; exact secA_By z
  have hKB : Fd.By K := by rw [← hK]; exact ptB_By _
  have hnB : Fd.By n := by rw [← hn]; exact nmb_By _ _
  have hkB : Fd.By k := by rw [← hk]; exact nmb_By _ _
  have hSB : Fd.By S := by rw [← hS]; exact dig_By _
  have eS : sigS z lm zm = S := by rw [← hS, ← hk, ← hA, ← hn]; rfl
  have eV : sigV z lm zm = cat2 32 R S := by rw [← hR, ← eS]; rfl
  rw [hK, hR, ver_of (P := A) hA hK hn hR hk hKB hAB hnB hkB (fun j hj => cat2_lo hj), cat2_hi, Bool.and_eq_true, sameRow_iff] at hv
  obtain ⟨h1, h2⟩ := hv
  have h1 := of_decide_eq_true h1
  have eP : (zX.mul fld (NZ o)).add fld ((zX.mul fld (NZ A)).mul fld (NZ k)).neg = zX.mul fld (NZ n) := ptB_inj (fun j hj => by
    rw [h2 j hj, Nat.zero_add, cat2_lo hj, R_pt hn hR])
  have eQ : (zX.mul fld (NZ S)).add fld ((zX.mul fld (NZ A)).mul fld (NZ k)).neg = zX.mul fld (NZ n) := by rw [sig_mul hkB hAB hnB hS, Pt.undo]
  have eM := Pt.cancel fld (eP.trans eQ.symm)
  have q1 : N32 o = (NZ o : Int) := (N32_nn ho).1
  have q2 : N32 S = (NZ S : Int) := (N32_nn hSB).1
  have l1 : NZ o < LN := by
    rw [q1, ← LN_LL] at h1
    exact Int.ofNat_lt.1 h1
  have l2 : NZ S < LN := by
    have h3 : N32 S < LL := by rw [← hS]; exact S_lt _
    rw [q2, ← LN_LL] at h3
    exact Int.ofNat_lt.1 h3
  have eN := base_inj l1 l2 eM
  have eV2 : N32 o = N32 S := by rw [q1, q2, eN]
  intro j hj
  rw [hR, eV]
  by_cases h : j < 32
  · rw [cat2_lo h, cat2_lo h]
  · unfold cat2
    rw [if_neg h, if_neg h]
    have ho2 : By o := ho
    have hS2 : By S := hSB
    rw [ho2.dig (j - 32) (by omega), hS2.dig (j - 32) (by omega), eV2]
def sdL : List Int := [157, 97, 177, 157, 239, 253, 90, 96, 186, 132, 74, 244, 146, 236, 44, 196, 68, 73, 197, 105, 123, 50, 105, 25, 112, 59, 172, 3, 28, 174, 127, 96]
def sdF (j : Nat) : Int := sdL.getD j 0
def sdN : Nat := 36144925721603087658594284515452164870581325872720374094707712194495455132720
def kxN : Nat := 38815646466658113194383306759739515082307681141926459231621296960732224964046
def kyN : Nat := 11903303657706407974989296177215005343713679411332034699907763981919547054807
theorem sd_num : NZ (secA sdF) = sdN := by decide +kernel
theorem key_num : (ngo sdN bxN byN 1 (bxN * byN % Fd.PN) 255 0 1 1 0).1 % Fd.PN = kxN * (ngo sdN bxN byN 1 (bxN * byN % Fd.PN) 255 0 1 1 0).2.2.1 % Fd.PN ∧ (ngo sdN bxN byN 1 (bxN * byN % Fd.PN) 255 0 1 1 0).2.1 % Fd.PN = kyN * (ngo sdN bxN byN 1 (bxN * byN % Fd.PN) 255 0 1 1 0).2.2.1 % Fd.PN := by decide +kernel
theorem key_pt : (zX.mul fld sdN).1 = (toF (kxN : Int), toF (kyN : Int)) := by
  have h := ngo_rep (n := sdN) base_repN 255 0 1 1 0 0 zero_repN
  rw [Nat.zero_mul, Nat.zero_add, show sdN % 2 ^ 255 = sdN by decide] at h
  obtain ⟨hX, hY⟩ := key_num
  obtain ⟨X, hXe⟩ : ∃ X, (ngo sdN bxN byN 1 (bxN * byN % Fd.PN) 255 0 1 1 0).1 = X := ⟨_, rfl⟩
  obtain ⟨Y, hYe⟩ : ∃ Y, (ngo sdN bxN byN 1 (bxN * byN % Fd.PN) 255 0 1 1 0).2.1 = Y := ⟨_, rfl⟩
  obtain ⟨Z, hZe⟩ : ∃ Z, (ngo sdN bxN byN 1 (bxN * byN % Fd.PN) 255 0 1 1 0).2.2.1 = Z := ⟨_, rfl⟩
  obtain ⟨T, hTe⟩ : ∃ T, (ngo sdN bxN byN 1 (bxN * byN % Fd.PN) 255 0 1 1 0).2.2.2 = T := ⟨_, rfl⟩
  rw [hXe, hYe, hZe, hTe] at h
  rw [hXe, hZe] at hX
  rw [hYe, hZe] at hY
  obtain ⟨z, x, y, t⟩ := h
  rw [← toF_nmod X, hX, toF_nmul] at x
  rw [← toF_nmod Y, hY, toF_nmul] at y
  exact Prod.ext (fld.cancel z x).symm (fld.cancel z y).symm
theorem key_bytes : ∀ j, j < 4 → pubK sdF j = [215, 90, 152, 1].getD j 0 := by
  have e : pubK sdF = dig 256 (((toF (kyN : Int)).val : Nat) : Int) := by
    unfold pubK
    rw [sd_num]
    unfold ptB
    rw [key_pt]
    exact if_neg (by decide +kernel)
  rw [e]
  have : ∀ j : Fin 4, dig 256 (((toF (kyN : Int)).val : Nat) : Int) j.val = [215, 90, 152, 1].getD j.val 0 := by decide +kernel
  exact fun j hj => this ⟨j, hj⟩
end Go.Proofs.YtbmnkchcekacfaaDoor.P
end

section
namespace Go.Proofs.YtbmnkchcekacfaaDoor.P
set_option linter.unusedVariables false
set_option linter.unusedSimpArgs false
open Go.RowKit Go.Proofs.YtbmnkchcekacfaaDoorW.PrintWords Go.Proofs.YtbmnkchcekacfaaDoorW.PrintLast Go.Proofs.YtbmnkchcekacfaaDoorW.PrintMore
attribute [local go_sem] setCell_drewN
def sN (n : Nat) (z : Nat → Int) : ByteArray := strOfNums ((List.range n).map z)
theorem OwnB.nil (w : World) (base : Nat) (z : Nat → Int) : OwnB w base (.slice none 0 0) 0 z := World.ownsRow_nil w base _ 1
theorem OwnB.congr {w : World} {base n : Nat} {v : Value} {z z' : Nat → Int} (h : OwnB w base v n z) (e : ∀ j, j < n → z j = z' j) : OwnB w base v n z' := by
  have e2 : ((List.range n).map fun j => Value.int .u8 (z j)) = (List.range n).map fun j => Value.int .u8 (z' j) := by
    apply List.map_congr_left; intro j hj; rw [e j (List.mem_range.1 hj)]
  unfold OwnB at *; rw [← e2]; exact h
theorem sN_size (n : Nat) (z : Nat → Int) : (sN n z).size = n := by simp [sN, strOfNums, ByteArray.size]
theorem sB_sN (n : Nat) (z : Nat → Int) (hz : ∀ i, i < n → 0 ≤ z i ∧ z i < 256) (i : Nat) (hi : i < n) : sB (sN n z) i = z i := by
  obtain ⟨c, h1, h2⟩ := sB_at (sN n z) i (by rw [sN_size]; exact hi)
  rw [← h2, ← h1 (by rw [sN_size]; exact hi)]
  have h3 := hz i hi
  show (((sN n z).data[i]'(by rw [show (sN n z).data.size = n from sN_size n z]; exact hi)).toNat : Int) = z i
  simp [sN, strOfNums]
  omega
theorem sN_val (n : Nat) (z : Nat → Int) (hz : ∀ i, i < n → 0 ≤ z i ∧ z i < 256) : val 256 (sB (sN n z)) (sN n z).size = val 256 z n := by
  rw [sN_size]; exact val_congr 256 _ _ n (fun i hi => sB_sN n z hz i hi)
theorem By.sB (s : ByteArray) : By (P.sB s) := fun j _ => sB_b s j
end Go.Proofs.YtbmnkchcekacfaaDoor.P
end

section
namespace Go.Proofs.YtbmnkchcekacfaaDoor.P
set_option linter.unusedVariables false
set_option linter.unusedSimpArgs false
open Go.RowKit Go.ChangeShapes Go.WideShapes Go.Proofs.YtbmnkchcekacfaaDoorW.PrintWords Go.Proofs.YtbmnkchcekacfaaDoorW.PrintLast Go.Proofs.YtbmnkchcekacfaaDoorW.PrintMore
section
variable {P : Program} {ops : Array Oper} {Q : Exit → Act → World → Prop}
theorem Sl.put {a : Act} {sz : Nat} {S : List (Tmp × Value)} {t : Tmp} {v : Value} (h : Sl a sz S) (hf : (S.all fun e => !(e.1 == t)) = true) (ht : Nat.ble (t + 1) sz = true) : Sl (a.put (some t) v) sz ((t, v) :: S) := by
  obtain ⟨h1, h2, h3⟩ := h
  have hlt : t < a.tmps.size := by rw [h1]; exact Nat.le_of_ble_eq_true ht
  refine ⟨by simpa [Act.put] using h1, h2, fun e he => ?_⟩
  rcases List.mem_cons.1 he with rfl | he
  · show (a.tmps.setIfInBounds t v).getD t undef = v
    rw [Array.getD_eq_getD_getElem?, Array.getElem?_setIfInBounds_self_of_lt hlt]; rfl
  · have hne := List.all_eq_true.1 hf e he
    have hne : t ≠ e.1 := fun c => by rw [c] at hne; simp at hne
    have h4 : a.tmps.getD e.1 undef = e.2 := h3 e he
    show (a.tmps.setIfInBounds t v).getD e.1 undef = e.2
    rw [Array.getD_eq_getD_getElem?, Array.getElem?_setIfInBounds_ne hne, ← Array.getD_eq_getD_getElem?]
    exact h4
theorem l_run {o : Oper} {rest : List Oper} {a : Act} {w w1 : World} {sz : Nat} {S : List (Tmp × Value)} {t : Tmp} {v : Value} (hd : o.dst = some t) (hg : o.guard = none) (hS : Sl a sz S) (hf : (S.all fun e => !(e.1 == t)) = true) (ht : Nat.ble (t + 1) sz = true)
    (hrun : (execOp a.eval o).run P w = .ok (.value v) w1) (h : ∀ a', Sl a' sz ((t, v) :: S) → wpList P ops Q rest a' w1) : wpList P ops Q (o :: rest) a w :=
  wpList_plain hg fun K hK => by
    unfold Oper.wp
    rw [hrun]
    show K (a.put o.dst v) w1
    rw [hd]
    exact hK _ _ (h _ (hS.put hf ht))
theorem sl_tell {a : Act} {sz : Nat} {S S' : List (Tmp × Value)} (h : Sl a sz S) (hm : ∀ e ∈ S', e ∈ S) : Sl a sz S' := ⟨h.1, h.2.1, fun e he => h.2.2 e (hm e he)⟩
end
theorem sN_congr {n : Nat} {f g : Nat → Int} (h : ∀ j, j < n → f j = g j) : Dg.sN n f = Dg.sN n g := by
  unfold Dg.sN
  congr 1
  exact List.map_congr_left (fun j hj => h j (List.mem_range.1 hj))
end Go.Proofs.YtbmnkchcekacfaaDoor.P
end

section
namespace Go.Proofs.YtbmnkchcekacfaaDoor.P
set_option linter.unusedVariables false
set_option linter.unusedSimpArgs false
open Go.RowKit Go.ChangeShapes Go.WideShapes Go.Proofs.YtbmnkchcekacfaaDoorW.PrintWords Go.Proofs.YtbmnkchcekacfaaDoorW.PrintLast Go.Proofs.YtbmnkchcekacfaaDoorW.PrintMore
open Go.Proofs.YtbmnkchcekacfaaDoor.P.Fd
theorem cat2_b {f m : Nat → Int} {n l : Nat} (hf : ∀ j, j < n → 0 ≤ f j ∧ f j < 256) (hm : ∀ j, j < l → 0 ≤ m j ∧ m j < 256) : ∀ j, j < n + l → 0 ≤ cat2 n f m j ∧ cat2 n f m j < 256 := fun j hj => by
  unfold cat2
  split
  · exact hf j (by assumption)
  · exact hm _ (by omega)
theorem By_wf {f : Nat → Int} (h : ∀ i, i < 32 → (Lit.int .u8 (f i)).wf = true) : Fd.By f := fun j hj => u8b (h j hj)
def IsRowB (w : World) (a : Option Addr) (len cap : Nat) (zs : List Int) : Prop :=
  (a = none ∧ len = 0 ∧ cap = 0 ∧ zs = []) ∨ ∃ x, a = some x ∧ len ≤ cap ∧ cap ≤ maxLen ∧ zs.length = cap ∧ (∀ i, i < zs.length → w.cell? (x.add i) = some (.int .u8 (zs.getD i 0))) ∧ ∀ n ∈ zs, (Lit.int .u8 n).wf = true
theorem IsRowB.at {w : World} {a : Option Addr} {len cap : Nat} {zs : List Int} (h : IsRowB w a len cap zs) : NumsAt .u8 w a len (fun j => zs.getD j 0) ∧ (∀ j, j < len → 0 ≤ zs.getD j 0 ∧ zs.getD j 0 < 256) ∧ (a = none → cap = 0) := by
  rcases h with ⟨rfl, rfl, rfl, rfl⟩ | ⟨x, rfl, hle, hm, hz, hc, hw⟩
  · exact ⟨.inl ⟨rfl, rfl⟩, fun j hj => by omega, fun _ => rfl⟩
  · refine ⟨.inr ⟨x, rfl, fun j hj => hc j (by omega)⟩, fun j hj => u8b (hw _ ?_), fun e => by cases e⟩
    rw [List.getD_eq_getElem?_getD, List.getElem?_eq_getElem (by omega)]
    exact List.getElem_mem _
set_option maxRecDepth 16384 in
theorem conv_nums {w : World} {a : Option Addr} {n cap : Nat} {z : Nat → Int} (h : NumsAt .u8 w a n z) (hz : ∀ j, j < n → 0 ≤ z j ∧ z j < 256) : (convert 25 9 (.slice a n cap)).run Tryd.prog w = .ok (.string (Dg.sN n z)) w := by
  rcases h with ⟨rfl, rfl⟩ | ⟨x, rfl, h⟩
  · exact run_convert_bytes_nil w 25 5 Tryd.underlying25 Tryd.underlying5 0 cap 9 Tryd.underlying9
  · have hl : ((List.range n).map fun j => UInt8.ofNat (z j).toNat).length = n := by simp
    have hr := run_convert_bytes_back (P := Tryd.prog) w 25 9 5 x cap ((List.range n).map fun j => UInt8.ofNat (z j).toNat) Tryd.underlying25 Tryd.underlying5 Tryd.underlying9 (fun j hj => by
      have hj' : j < n := by rw [hl] at hj; exact hj
      rw [h j hj']
      have h3 := hz j hj'
      simp
      omega)
    rw [hl] at hr
    rw [hr]
    congr 2
    simp [Dg.sN, strOfNums]
theorem msg_of {w : World} {a : Option Addr} {len cap : Nat} {zs : List Int} (h : IsRowB w a len cap zs) (hl : len ≤ 1024) : ∀ w', Below w.heap.size w w' → Dg.Msg w' a len cap (fun j => zs.getD j 0) := by
  obtain ⟨h1, h2, h3⟩ := h.at
  intro w' hb
  exact ⟨h1.below hb h1.lt, h3, by omega, h2⟩
theorem gtr_run {x c : Int} {k : IntKind} {t : TypeId} {r : Bool} (h : decide (c < x) = r) (w : World) (p q : Operand) : (do eqGuard .gtr t p q (.int k x) (.int k c); binOp .gtr t (.int k x) (.int k c) : Sem Value).run Tryd.prog w = .ok (.bool r) w := by subst h; go_simp
theorem exec_len {o : Oper} {ev : Operand → Value} {w : World} {x : Operand} {a : Option Addr} {n c : Nat} (ho : o.op = .call { callee := .builtin .len, args := #[x], argTypes := #[25] }) (hx : ev x = .slice a n c) : (execOp ev o).run Tryd.prog w = .ok (.value (.int .i64 (n : Int))) w := by
  have hu := Tryd.underlying25
  unfold execOp
  simp only [ho, resolve, invoke, builtin, Builtin.len_, Sem.run_bind, Sem.run_pure, Result.andThen_ok, List.map_toArray, List.map_cons, List.map_nil, hx]
  go_simp
theorem equal64r {f g : Nat → Int} (w : World) : (Op.equal 28 (.agg (FR .u8 64 f)) (.agg (FR .u8 64 g))).run Tryd.prog w = .ok (sameRow 64 f g) w := run_equal_FR Tryd.underlying28 Tryd.underlying5 (by kernel_rfl) f g w
theorem neq64_run {f g : Nat → Int} {r : Bool} (h : sameRow 64 f g = r) (w : World) (p q : Operand) : (do eqGuard .neq 28 p q (.agg (FR .u8 64 f)) (.agg (FR .u8 64 g)); binOp .neq 28 (.agg (FR .u8 64 f)) (.agg (FR .u8 64 g)) : Sem Value).run Tryd.prog w = .ok (.bool (!r)) w := by
  subst h
  unfold binOp eqGuard
  have he := equal64r (f := f) (g := g)
  go_simp
theorem eq64_run {f g : Nat → Int} {r : Bool} (h : sameRow 64 f g = r) (w : World) (p q : Operand) : (do eqGuard .eql 28 p q (.agg (FR .u8 64 f)) (.agg (FR .u8 64 g)); binOp .eql 28 (.agg (FR .u8 64 f)) (.agg (FR .u8 64 g)) : Sem Value).run Tryd.prog w = .ok (.bool r) w := by
  subst h
  unfold binOp eqGuard
  have he := equal64r (f := f) (g := g)
  go_simp
theorem sdF_By : Fd.By sdF := by
  have : ∀ j : Fin 32, 0 ≤ sdF j.val ∧ sdF j.val < 256 := by decide
  exact fun j hj => this ⟨j, hj⟩
theorem build_sd (w : World) : (Instr.build 22 #[(0, .int .u8 157), (1, .int .u8 97), (2, .int .u8 177), (3, .int .u8 157), (4, .int .u8 239), (5, .int .u8 253), (6, .int .u8 90), (7, .int .u8 96), (8, .int .u8 186), (9, .int .u8 132), (10, .int .u8 74), (11, .int .u8 244), (12, .int .u8 146), (13, .int .u8 236), (14, .int .u8 44), (15, .int .u8 196), (16, .int .u8 68), (17, .int .u8 73), (18, .int .u8 197), (19, .int .u8 105), (20, .int .u8 123), (21, .int .u8 50), (22, .int .u8 105), (23, .int .u8 25), (24, .int .u8 112), (25, .int .u8 59), (26, .int .u8 172), (27, .int .u8 3), (28, .int .u8 28), (29, .int .u8 174), (30, .int .u8 127), (31, .int .u8 96)]).run Tryd.prog w = .ok (.agg (FR .u8 32 sdF)) w := by kernel_rfl
theorem key_str : ((Dg.sN 4 (pubK sdF)).toList == (⟨#[215, 90, 152, 1]⟩ : ByteArray).toList) = true := by
  have e : Dg.sN 4 (pubK sdF) = ⟨#[215, 90, 152, 1]⟩ := by
    rw [sN_congr key_bytes]
    decide
  rw [e]; exact beq_self_eq_true _
theorem pub_as {z K : Nat → Int} (h : pubK z = K) (w : World) (hTd : Dg.Tab w) (hT : TabD w) (hz : Fd.By z) : Calls Tryd.prog 9 #[.agg (FR .u8 32 z)] w fun e w' => e = .returned (.agg (FR .u8 32 K)) ∧ Below w.heap.size w w' := by rw [← h]; exact public_calls z w hTd hT hz
theorem sig_as {z zm V : Nat → Int} {am : Option Addr} {lm cm : Nat} (h : sigV z lm zm = V) (w : World) (hTd : Dg.Tab w) (hT : TabD w) (hO : Ord w) (hz : Fd.By z) (hM : ∀ w', Below w.heap.size w w' → Dg.Msg w' am lm cm zm) : Calls Tryd.prog 13 #[.agg (FR .u8 32 z), .slice am lm cm] w fun e w' => e = .returned (.agg (FR .u8 64 V)) ∧ Below w.heap.size w w' := by rw [← h]; exact sign_calls z am lm cm zm w hTd hT hO hz hM
theorem ver_as {a zm sg : Nat → Int} {am : Option Addr} {lm cm : Nat} {r : Bool} (h : verV a lm zm sg = r) (w : World) (hTd : Dg.Tab w) (hT : TabD w) (hO : Ord w) (ha : Fd.By a) (hsg : ∀ j, j < 64 → 0 ≤ sg j ∧ sg j < 256) (hM : ∀ w', Below w.heap.size w w' → Dg.Msg w' am lm cm zm) : Calls Tryd.prog 11 #[.agg (FR .u8 32 a), .slice am lm cm, .agg (FR .u8 64 sg)] w fun e w' => e = .returned (.bool r) ∧ Below w.heap.size w w' := by rw [← h]; exact verify_calls a am lm cm zm sg w hTd hT hO ha hsg hM
theorem msg_to {w1 w2 : World} {am : Option Addr} {lm cm : Nat} {zm : Nat → Int} (h : ∀ w', Below w1.heap.size w1 w' → Dg.Msg w' am lm cm zm) (h1 : Below w1.heap.size w1 w2) : ∀ w', Below w2.heap.size w2 w' → Dg.Msg w' am lm cm zm := fun w' hb => h w' (h1.trans (hb.mono h1.size))
theorem sigV_b (z : Nat → Int) (lm : Nat) (zm : Nat → Int) : ∀ j, j < 64 → 0 ≤ sigV z lm zm j ∧ sigV z lm zm j < 256 := cat2_b (n := 32) (l := 32) (ptB_By _) (dig_By _)
theorem str_self (s : ByteArray) : (s.toList == s.toList) = true := beq_self_eq_true _
theorem load_as {o : Oper} {ev : Operand → Value} {w : World} {f s : Nat → Int} (e : f = s) (h : (execOp ev o).run Tryd.prog w = .ok (.value (.agg (FR .u8 32 f))) w) : (execOp ev o).run Tryd.prog w = .ok (.value (.agg (FR .u8 32 s))) w := by rw [← e]; exact h
theorem slc_32_0_4 (g : Nat) (w : World) : (Instr.sliceAt 22 (.pointer (some ⟨g, 0, none⟩)) none (some (.int .i64 4)) none).run Tryd.prog w = .ok (.slice (some ⟨g, 0, none⟩) 4 32) w := by kernel_rfl
theorem only_row (z : Nat → Int) (lm : Nat) (zm o : Nat → Int) : ∀ j, j < 64 → updR (sigV z lm zm) 32 32 o j = cat2 32 (sigR z lm zm) o j := fun j hj => by
  unfold updR sigV cat2
  by_cases h : j < 32
  · rw [if_neg (by omega), if_pos h, if_pos h]
  · rw [if_pos (by omega), if_neg h]
theorem verV_congr {a zm f g : Nat → Int} {lm : Nat} (h : ∀ j, j < 64 → f j = g j) : verV a lm zm f = verV a lm zm g := by
  have e1 : N32 (fun j => f (32 + j)) = N32 (fun j => g (32 + j)) := val_congr 256 _ _ 32 (fun j hj => h (32 + j) (by omega))
  have e2 : NZ (fun j => f (32 + j)) = NZ (fun j => g (32 + j)) := by
    unfold NZ
    rw [show Fd.N32 (fun j => f (32 + j)) = Fd.N32 (fun j => g (32 + j)) from e1]
  have e3 : nmb (cat3 f a zm) (64 + lm) = nmb (cat3 g a zm) (64 + lm) := congrArg (fun z => nmb z (64 + lm)) (cat3_lo (fun j hj => h j (by omega)))
  have e4 : ∀ E, sameRow 32 E (fun j => f (0 + j)) = sameRow 32 E (fun j => g (0 + j)) := fun E => by
    rw [Bool.eq_iff_iff, sameRow_iff, sameRow_iff]
    constructor
    · intro k j hj; rw [k j hj]; exact h (0 + j) (by omega)
    · intro k j hj; rw [k j hj]; exact (h (0 + j) (by omega)).symm
  unfold verV
  simp only [e1, e2, e3, e4]
theorem good_of {K zm V s : Nat → Int} {lm : Nat} (h : verV K lm zm V = true) (hs : (fun j => V (32 + j)) = s) : decide (N32 s < LL) = true := by
  cases hg : decide (N32 s < LL) with
  | true => rfl
  | false => rw [verV_bad hs hg] at h; exact absurd h (by decide)
theorem only_of {z zm o T V : Nat → Int} {lm : Nat} (ho : Fd.By o) (hT : ∀ j, j < 64 → T j = cat2 32 (sigR z lm zm) o j) (hV : sigV z lm zm = V) (hd : sameRow 64 T V = false) : verV (pubK z) lm zm T = false := by
  cases h : verV (pubK z) lm zm T with
  | false => rfl
  | true =>
    rw [verV_congr hT] at h
    have h2 := sign_only ho h
    have : sameRow 64 T V = true := (sameRow_iff _ _ _).2 (fun j hj => by rw [hT j hj, h2 j hj, hV])
    rw [this] at hd
    exact absurd hd (by decide)
theorem tablo_8 : rtab .any (opsOf Tryd.f7 8) = (true, [([], []), ([], []), ([0, 1], [0, 1])]) := by kernel_rfl
theorem bitslo_8 : zS [([], []), ([], []), ([0, 1], [0, 1])] [0, 0, 3] = true := by kernel_rfl
theorem alive_calls (w : World) (hTd : Dg.Tab w) (hT : TabD w) : Calls Tryd.prog 8 #[] w fun e w' => e = .returned (.bool true) ∧ Below w.heap.size w w' := by
  have hz := sdF_By
  obtain ⟨K, hK⟩ : ∃ K, pubK sdF = K := ⟨_, rfl⟩
  have hKB : Fd.By K := by rw [← hK]; exact ptB_By _
  have hst := key_str
  rw [hK] at hst
  refine enter_ 9 Tryd.func8 rfl rfl (fun a0 hS => ?_)
  have HS0 : Sl a0 9 [] := hS
  have HH0 : Held w w [] := Held.first w
  clear hS
  refine wp_seq ?_
  have hLo : LOk [(0, 0, .val (.bool false))] := lok rfl rfl
  refine zJ (wE := w) (sz := 9) (n := 1) [0] [] _ [] rfl (by rfl) HH0 rfl rfl hLo rfl HS0 (trivial) ?_ ?_
  · show ∀ i ∈ [0], _
    refine zA (zD 0 _ rfl rfl hLo rfl rfl (fun _ _ _ _ => rfl) (fun b G w hb ho => zF (.inr rfl) (rfl))) ?_
    exact zE
  clear hLo
  intro G a1 w1 hS hH
  have HS1 : Sl a1 9 [] := hS
  have HH1 : Held w w1 [] := hH
  clear hS hH HS0 HH0
  refine then_ ?_
  refine wp_seq ?_
  have hLo : LOk [(0, 3, .val (.agg (FR .u8 32 (sdF)))), (1, 1, .ptr 1 0)] := lok rfl rfl
  refine zJ (wE := w) (sz := 9) (n := 3) [0, 1, 3] [(1, .ptr 1 0)] _ [⟨0, some 1, some 2, .u8, 32, fun _ => 0, sdF, 22⟩] rfl (by rfl) HH1 rfl rfl hLo rfl HS1 (slL 1 (d := 1) rfl (trivial)) ?_ ?_
  · show ∀ i ∈ [0, 1, 2], _
    refine zA (zD 0 _ rfl rfl hLo rfl rfl (fun _ _ _ _ => rfl) (fun b G w hb ho => exec_build rfl (by simp only [List.map_toArray, List.map_cons, List.map_nil]; rfl) (build_sd _))) ?_
    refine zA (zK 1 0 .u8 32 22 (some 2) _ _ rfl rfl (fun _ _ _ _ => rfl) rfl hLo rfl rfl rfl rfl (by rfl) (fun b G w _ _ => by kernel_rfl)) ?_
    refine zA (zM 0 _ rfl rfl rfl rfl rfl (fun _ _ _ _ => rfl) rfl rfl rfl (by rfl) zP (fun b G hb ho => zB hLo 1 rfl HS1.1 rfl (hb 1 (by rfl))) (fun b G hb ho => zB hLo 0 rfl HS1.1 rfl (hb 0 (by rfl)))) ?_
    exact zE
  clear hLo
  intro G a2 w2 hS hH
  have HS2 : Sl a2 9 [(1, .pointer (some ⟨(G 1), 0, none⟩))] := hS
  have HH2 : Held w w2 [⟨(G 1), .u8, 32, sdF, 22⟩] := hH
  clear hS hH HS1 HH1
  generalize G 1 = g2_1 at HS2 HH2
  refine then_ ?_
  refine wp_seq ?_
  have hLo : LOk [(0, 4, .val (.agg (FR .u8 32 (sdF)))), (1, 5, .val (.agg (FR .u8 32 (K)))), (2, 2, .ptr 2 0)] := lok rfl rfl
  refine zJ (wE := w) (sz := 9) (n := 4) [0, 1, 3, 7] [(2, .ptr 2 0)] _ [⟨g2_1, none, none, .u8, 32, sdF, sdF, 22⟩, ⟨0, some 2, some 3, .u8, 32, fun _ => 0, K, 22⟩] rfl (by rfl) HH2 rfl rfl hLo rfl HS2 (slL 2 (d := 2) rfl (trivial)) ?_ ?_
  · show ∀ i ∈ [0, 1, 2, 3], _
    refine zA (zH 0 0 _ rfl rfl rfl rfl (fun _ _ _ _ => rfl) hLo rfl rfl rfl (by rfl) Tryd.underlying22 zP rfl (fun b G hb ho => zC rfl (HS2.get 0 rfl))) ?_
    refine zA (zG 1 _ #[.agg (FR .u8 32 (sdF))] rfl rfl rfl (fun _ _ _ _ => rfl) hLo rfl rfl Tryd.func9 rfl rfl (fun b G hb ho => args1 (zB hLo 0 rfl HS2.1 rfl (hb 0 (by rfl)))) (fun w hw => pub_as hK w (hTd.to hw) (hT.to hw) hz)) ?_
    refine zA (zK 2 1 .u8 32 22 (some 3) _ _ rfl rfl (fun _ _ _ _ => rfl) rfl hLo rfl rfl rfl rfl (by rfl) (fun b G w _ _ => by kernel_rfl)) ?_
    refine zA (zM 1 _ rfl rfl rfl rfl rfl (fun _ _ _ _ => rfl) rfl rfl rfl (by rfl) zP (fun b G hb ho => zB hLo 2 rfl HS2.1 rfl (hb 2 (by rfl))) (fun b G hb ho => zB hLo 1 rfl HS2.1 rfl (hb 1 (by rfl)))) ?_
    exact zE
  clear hLo
  intro G a3 w3 hS hH
  have HS3 : Sl a3 9 [(2, .pointer (some ⟨(G 2), 0, none⟩))] := hS
  have HH3 : Held w w3 [⟨g2_1, .u8, 32, sdF, 22⟩, ⟨(G 2), .u8, 32, K, 22⟩] := hH
  clear hS hH HS2 HH2
  generalize G 2 = g3_2 at HS3 HH3
  refine then_ ?_
  refine wp_seq ?_
  have hLo : LOk [(0, 6, .val (.slice (some ⟨g3_2, 0, none⟩) 4 32)), (1, 7, .val (.string (Dg.sN 4 (K)))), (2, 8, .val (.bool true)), (3, 0, .val (.bool true))] := lok rfl rfl
  refine zJ (wE := w) (sz := 9) (n := 4) [0, 1, 3, 7] [(0, .val (.bool true))] _ [⟨g2_1, none, none, .u8, 32, sdF, sdF, 22⟩, ⟨g3_2, none, none, .u8, 32, K, K, 22⟩] rfl (by rfl) HH3 rfl rfl hLo rfl HS3 (slL 3 (d := 3) rfl (trivial)) ?_ ?_
  · show ∀ i ∈ [0, 1, 2, 3], _
    refine zA (zD 0 _ rfl rfl hLo rfl rfl (fun _ _ _ _ => rfl) (fun b G w hb ho => exec_slice rfl (zC rfl (HS3.get 0 rfl)) rfl rfl rfl (slc_32_0_4 _ _))) ?_
    refine zA (st_read 1 1 _ _ rfl rfl rfl hLo rfl rfl (fun _ _ _ _ => rfl) (by rfl) (by rfl) (fun b G w hb ho hr => exec_convert rfl (zB hLo 0 rfl HS3.1 rfl (hb 0 (by rfl))) (conv_slc hr (Nat.le_of_ble_eq_true rfl)))) ?_
    refine zA (zD 2 _ rfl rfl hLo rfl rfl (fun _ _ _ _ => rfl) (fun b G w hb ho => zV rfl (zB hLo 1 rfl HS3.1 rfl (hb 1 (by rfl))) (rfl) (eqS_run hst _ _ _))) ?_
    refine zA (zD 3 _ rfl rfl hLo rfl rfl (fun _ _ _ _ => rfl) (fun b G w hb ho => zF (.inr rfl) (zB hLo 2 rfl HS3.1 rfl (hb 2 (by rfl))))) ?_
    exact zE
  clear hLo
  intro G a4 w4 hS hH
  have HS4 : Sl a4 9 [(0, .bool true)] := hS
  have HH4 : Held w w4 [⟨g2_1, .u8, 32, sdF, 22⟩, ⟨g3_2, .u8, 32, K, 22⟩] := hH
  clear hS hH HS3 HH3
  refine then_ ?_
  refine wp_ret ?_
  repeat refine then_ret ?_
  exact b_tmp rfl HS4.2.1 (HS4.get 0 rfl) ⟨rfl, HH4.1⟩
theorem SignOnly_walk (z : Nat → Int) (am : Option Addr) (lm cm : Nat) (zs : List Int) (o : Nat → Int) (w : World) (hTT : Dg.Tab w ∧ TabD w ∧ Ord w) (w0 : ∀ i, i < 32 → (Lit.int .u8 (z i)).wf = true) (hin : IsRowB w am lm cm zs) (y1 : lm * 1 ≤ 140737488351232) (hin2 : ∀ i, i < 32 → (Lit.int .u8 (o i)).wf = true) : Calls Tryd.prog 7 #[.agg (FR .u8 32 z), .slice am lm cm, .agg (FR .u8 32 o)] w fun e w' => e = .returned (.bool true) ∧ Below w.heap.size w w' := by
  obtain ⟨hTd, hT, hO⟩ := hTT
  obtain ⟨zm, hzm⟩ : ∃ zm, (fun j => zs.getD j 0) = zm := ⟨_, rfl⟩
  obtain ⟨r, hr⟩ : ∃ r, decide ((1024 : Int) < (lm : Int)) = r := ⟨_, rfl⟩
  have hz := By_wf w0
  have ho := By_wf hin2
  obtain ⟨V, hV⟩ : ∃ V, sigV z lm zm = V := ⟨_, rfl⟩
  have hVB : ∀ j, j < 64 → 0 ≤ V j ∧ V j < 256 := by rw [← hV]; exact sigV_b z lm zm
  obtain ⟨K, hK⟩ : ∃ K, pubK z = K := ⟨_, rfl⟩
  have hKB : Fd.By K := by rw [← hK]; exact ptB_By _
  obtain ⟨T, hT0⟩ : ∃ T, updR V 32 32 o = T := ⟨_, rfl⟩
  have hTc : ∀ j, j < 64 → T j = cat2 32 (sigR z lm zm) o j := by rw [← hT0, ← hV]; exact only_row z lm zm o
  have hTB : ∀ j, j < 64 → 0 ≤ T j ∧ T j < 256 := fun j hj => by rw [hTc j hj]; exact cat2_b (n := 32) (l := 32) (ptB_By _) ho j hj
  obtain ⟨d, hd⟩ : ∃ d, sameRow 64 T V = d := ⟨_, rfl⟩
  obtain ⟨s, hs⟩ : ∃ s, (fun j => V (32 + j)) = s := ⟨_, rfl⟩
  have hsB : Fd.By s := fun j hj => by rw [← hs]; exact hVB (32 + j) (by omega)
  have hv1 : verV K lm zm V = true := by rw [← hK, ← hV]; exact sign_ver
  have hg : decide (N32 s < LL) = true := good_of hv1 hs
  have hv2 : d = false → verV K lm zm T = false := fun e => by rw [← hK]; exact only_of ho hTc hV (e ▸ hd)
  refine enter_ 43 Tryd.func7 rfl rfl (fun a0 hS => ?_)
  have HS0 : Sl a0 43 [(0, .agg (FR .u8 32 z)), (1, .slice am lm cm), (2, .agg (FR .u8 32 o))] := hS
  have HH0 : Held w w [] := Held.first w
  clear hS
  refine wp_seq ?_
  have hLo : LOk [(0, 3, .ptr 0 0), (1, 5, .ptr 1 0), (2, 6, .val (.bool false))] := lok rfl rfl
  refine zJ (wE := w) (sz := 43) (n := 3) [0, 1, 3] [(1, .val (.slice am lm cm)), (3, .ptr 0 0), (5, .ptr 1 0)] _ [⟨0, some 0, none, .u8, 32, z, z, 22⟩, ⟨0, some 1, none, .u8, 32, o, o, 22⟩] rfl (by rfl) HH0 rfl rfl hLo rfl HS0 (slS 1 rfl rfl (slL 0 (d := 0) rfl (slL 1 (d := 1) rfl (trivial)))) ?_ ?_
  · show ∀ i ∈ [0, 1, 2], _
    refine zA (zK 0 0 .u8 32 22 none _ _ rfl rfl (fun _ _ _ _ => rfl) rfl hLo rfl rfl rfl rfl (by rfl) (fun b G w hb ho => exec_box rfl (zC rfl (HS0.get 0 rfl)) (by kernel_rfl))) ?_
    refine zA (zK 1 1 .u8 32 22 none _ _ rfl rfl (fun _ _ _ _ => rfl) rfl hLo rfl rfl rfl rfl (by rfl) (fun b G w hb ho => exec_box rfl (zC rfl (HS0.get 2 rfl)) (by kernel_rfl))) ?_
    refine zA (zD 2 _ rfl rfl hLo rfl rfl (fun _ _ _ _ => rfl) (fun b G w hb ho => zF (.inr rfl) (rfl))) ?_
    exact zE
  clear hLo
  intro G a1 w1 hS hH
  have HS1 : Sl a1 43 [(1, .slice am lm cm), (3, .pointer (some ⟨(G 0), 0, none⟩)), (5, .pointer (some ⟨(G 1), 0, none⟩))] := hS
  have HH1 : Held w w1 [⟨(G 0), .u8, 32, z, 22⟩, ⟨(G 1), .u8, 32, o, 22⟩] := hH
  clear hS hH HS0 HH0
  generalize G 0 = g1_0 at HS1 HH1
  generalize G 1 = g1_1 at HS1 HH1
  refine then_ ?_
  refine wp_seq ?_
  refine wp_seq ?_
  have hLo : LOk [(0, 10, .val (.bool true)), (1, 11, .val (.bool false))] := lok rfl rfl
  refine zJ (wE := w) (sz := 43) (n := 2) [0, 1] [(1, .val (.slice am lm cm)), (3, .val (.pointer (some ⟨g1_0, 0, none⟩))), (5, .val (.pointer (some ⟨g1_1, 0, none⟩))), (11, .val (.bool false))] _ [⟨g1_0, none, none, .u8, 32, z, z, 22⟩, ⟨g1_1, none, none, .u8, 32, o, o, 22⟩] rfl (by rfl) HH1 rfl rfl hLo rfl HS1 (slS 0 rfl rfl (slS 1 rfl rfl (slS 2 rfl rfl (slL 1 (d := 1) rfl (trivial))))) ?_ ?_
  · show ∀ i ∈ [0, 1], _
    refine zA (zG 0 _ #[] rfl rfl rfl (fun _ _ _ _ => rfl) hLo rfl rfl Tryd.func8 rfl rfl (fun b G hb ho => args0 ) (fun w hw => alive_calls w (hTd.to hw) (hT.to hw))) ?_
    refine zA (zD 1 _ rfl rfl hLo rfl rfl (fun _ _ _ _ => rfl) (fun b G w hb ho => exec_un rfl (zB hLo 0 rfl HS1.1 rfl (hb 0 (by rfl))) (by rfl))) ?_
    exact zE
  clear hLo
  intro G a2 w2 hS hH
  have HS2 : Sl a2 43 [(1, .slice am lm cm), (3, .pointer (some ⟨g1_0, 0, none⟩)), (5, .pointer (some ⟨g1_1, 0, none⟩)), (11, .bool false)] := hS
  have HH2 : Held w w2 [⟨g1_0, .u8, 32, z, 22⟩, ⟨g1_1, .u8, 32, o, 22⟩] := hH
  clear hS hH HS1 HH1
  refine then_ ?_
  refine wp_cond_false (HS2.get 3 rfl) ?_
  refine wp_skip ?_
  refine then_ ?_
  cases r
  · skip
    have hl : lm ≤ 1024 := by have := of_decide_eq_false hr; omega
    have hM := msg_of hin hl
    rw [hzm] at hM
    have hm := (hM w (Below.refl _ _)).2.2.2
    refine wp_seq ?_
    refine wp_seq ?_
    have hLo : LOk [(0, 12, .val (.slice am lm cm)), (1, 13, .val (.int .i64 (lm : Int))), (2, 14, .val (.bool false))] := lok rfl rfl
    refine zJ (wE := w) (sz := 43) (n := 3) [0, 1, 3] [(1, .val (.slice am lm cm)), (3, .val (.pointer (some ⟨g1_0, 0, none⟩))), (5, .val (.pointer (some ⟨g1_1, 0, none⟩))), (14, .val (.bool false))] _ [⟨g1_0, none, none, .u8, 32, z, z, 22⟩, ⟨g1_1, none, none, .u8, 32, o, o, 22⟩] rfl (by rfl) HH2 rfl rfl hLo rfl HS2 (slS 0 rfl rfl (slS 1 rfl rfl (slS 2 rfl rfl (slL 2 (d := 2) rfl (trivial))))) ?_ ?_
    · show ∀ i ∈ [0, 1, 2], _
      refine zA (zD 0 _ rfl rfl hLo rfl rfl (fun _ _ _ _ => rfl) (fun b G w hb ho => zF (.inl rfl) (zC rfl (HS2.get 0 rfl)))) ?_
      refine zA (zD 1 _ rfl rfl hLo rfl rfl (fun _ _ _ _ => rfl) (fun b G w hb ho => exec_len rfl (zB hLo 0 rfl HS2.1 rfl (hb 0 (by rfl))))) ?_
      refine zA (zD 2 _ rfl rfl hLo rfl rfl (fun _ _ _ _ => rfl) (fun b G w hb ho => zV rfl (zB hLo 1 rfl HS2.1 rfl (hb 1 (by rfl))) (rfl) (gtr_run hr _ _ _))) ?_
      exact zE
    clear hLo
    intro G a3 w3 hS hH
    have HS3 : Sl a3 43 [(1, .slice am lm cm), (3, .pointer (some ⟨g1_0, 0, none⟩)), (5, .pointer (some ⟨g1_1, 0, none⟩)), (14, .bool false)] := hS
    have HH3 : Held w w3 [⟨g1_0, .u8, 32, z, 22⟩, ⟨g1_1, .u8, 32, o, 22⟩] := hH
    clear hS hH HS2 HH2
    refine then_ ?_
    refine wp_cond_false (HS3.get 3 rfl) ?_
    refine wp_skip ?_
    refine then_ ?_
    refine wp_seq ?_
    have hLo : LOk [(0, 15, .val (.agg (FR .u8 32 (z)))), (1, 16, .val (.slice am lm cm)), (2, 17, .val (.agg (FR .u8 64 (V)))), (3, 7, .ptr 3 0)] := lok rfl rfl
    refine zJ (wE := w) (sz := 43) (n := 5) [0, 1, 3, 7, 15] [(1, .val (.slice am lm cm)), (3, .val (.pointer (some ⟨g1_0, 0, none⟩))), (5, .val (.pointer (some ⟨g1_1, 0, none⟩))), (7, .ptr 3 0)] _ [⟨g1_0, none, none, .u8, 32, z, z, 22⟩, ⟨g1_1, none, none, .u8, 32, o, o, 22⟩, ⟨0, some 3, some 4, .u8, 64, fun _ => 0, V, 28⟩] rfl (by rfl) HH3 rfl rfl hLo rfl HS3 (slS 0 rfl rfl (slS 1 rfl rfl (slS 2 rfl rfl (slL 3 (d := 3) rfl (trivial))))) ?_ ?_
    · show ∀ i ∈ [0, 1, 2, 3, 4], _
      refine zA (zH 0 0 _ rfl rfl rfl rfl (fun _ _ _ _ => rfl) hLo rfl rfl rfl (by rfl) Tryd.underlying22 zP rfl (fun b G hb ho => zC rfl (HS3.get 1 rfl))) ?_
      refine zA (zD 1 _ rfl rfl hLo rfl rfl (fun _ _ _ _ => rfl) (fun b G w hb ho => zF (.inl rfl) (zC rfl (HS3.get 0 rfl)))) ?_
      refine zA (zG 2 _ #[.agg (FR .u8 32 (z)), .slice am lm cm] rfl rfl rfl (fun _ _ _ _ => rfl) hLo rfl rfl Tryd.func13 rfl rfl (fun b G hb ho => args2 (zB hLo 0 rfl HS3.1 rfl (hb 0 (by rfl))) (zB hLo 1 rfl HS3.1 rfl (hb 1 (by rfl)))) (fun w hw => sig_as hV w (hTd.to hw) (hT.to hw) (hO.to hw) hz (msg_to hM hw))) ?_
      refine zA (zK 3 2 .u8 64 28 (some 4) _ _ rfl rfl (fun _ _ _ _ => rfl) rfl hLo rfl rfl rfl rfl (by rfl) (fun b G w _ _ => by kernel_rfl)) ?_
      refine zA (zM 2 _ rfl rfl rfl rfl rfl (fun _ _ _ _ => rfl) rfl rfl rfl (by rfl) infoB6 (fun b G hb ho => zB hLo 3 rfl HS3.1 rfl (hb 3 (by rfl))) (fun b G hb ho => zB hLo 2 rfl HS3.1 rfl (hb 2 (by rfl)))) ?_
      exact zE
    clear hLo
    intro G a4 w4 hS hH
    have HS4 : Sl a4 43 [(1, .slice am lm cm), (3, .pointer (some ⟨g1_0, 0, none⟩)), (5, .pointer (some ⟨g1_1, 0, none⟩)), (7, .pointer (some ⟨(G 3), 0, none⟩))] := hS
    have HH4 : Held w w4 [⟨g1_0, .u8, 32, z, 22⟩, ⟨g1_1, .u8, 32, o, 22⟩, ⟨(G 3), .u8, 64, V, 28⟩] := hH
    clear hS hH HS3 HH3
    generalize G 3 = g4_3 at HS4 HH4
    refine then_ ?_
    refine wp_seq ?_
    have hLo : LOk [(0, 18, .val (.agg (FR .u8 32 (z)))), (1, 19, .val (.agg (FR .u8 32 (K)))), (2, 8, .ptr 2 0)] := lok rfl rfl
    refine zJ (wE := w) (sz := 43) (n := 4) [0, 1, 3, 7] [(1, .val (.slice am lm cm)), (5, .val (.pointer (some ⟨g1_1, 0, none⟩))), (7, .val (.pointer (some ⟨g4_3, 0, none⟩))), (8, .ptr 2 0)] _ [⟨g1_0, none, none, .u8, 32, z, z, 22⟩, ⟨g1_1, none, none, .u8, 32, o, o, 22⟩, ⟨g4_3, none, none, .u8, 64, V, V, 28⟩, ⟨0, some 2, some 3, .u8, 32, fun _ => 0, K, 22⟩] rfl (by rfl) HH4 rfl rfl hLo rfl HS4 (slS 0 rfl rfl (slS 2 rfl rfl (slS 3 rfl rfl (slL 2 (d := 2) rfl (trivial))))) ?_ ?_
    · show ∀ i ∈ [0, 1, 2, 3], _
      refine zA (zH 0 0 _ rfl rfl rfl rfl (fun _ _ _ _ => rfl) hLo rfl rfl rfl (by rfl) Tryd.underlying22 zP rfl (fun b G hb ho => zC rfl (HS4.get 1 rfl))) ?_
      refine zA (zG 1 _ #[.agg (FR .u8 32 (z))] rfl rfl rfl (fun _ _ _ _ => rfl) hLo rfl rfl Tryd.func9 rfl rfl (fun b G hb ho => args1 (zB hLo 0 rfl HS4.1 rfl (hb 0 (by rfl)))) (fun w hw => pub_as hK w (hTd.to hw) (hT.to hw) hz)) ?_
      refine zA (zK 2 3 .u8 32 22 (some 3) _ _ rfl rfl (fun _ _ _ _ => rfl) rfl hLo rfl rfl rfl rfl (by rfl) (fun b G w _ _ => by kernel_rfl)) ?_
      refine zA (zM 3 _ rfl rfl rfl rfl rfl (fun _ _ _ _ => rfl) rfl rfl rfl (by rfl) zP (fun b G hb ho => zB hLo 2 rfl HS4.1 rfl (hb 2 (by rfl))) (fun b G hb ho => zB hLo 1 rfl HS4.1 rfl (hb 1 (by rfl)))) ?_
      exact zE
    clear hLo
    intro G a5 w5 hS hH
    have HS5 : Sl a5 43 [(1, .slice am lm cm), (5, .pointer (some ⟨g1_1, 0, none⟩)), (7, .pointer (some ⟨g4_3, 0, none⟩)), (8, .pointer (some ⟨(G 2), 0, none⟩))] := hS
    have HH5 : Held w w5 [⟨g1_0, .u8, 32, z, 22⟩, ⟨g1_1, .u8, 32, o, 22⟩, ⟨g4_3, .u8, 64, V, 28⟩, ⟨(G 2), .u8, 32, K, 22⟩] := hH
    clear hS hH HS4 HH4
    generalize G 2 = g5_2 at HS5 HH5
    refine then_ ?_
    refine wp_seq ?_
    have hLo : LOk [(0, 20, .val (.agg (FR .u8 64 (V)))), (1, 9, .ptr 1 0)] := lok rfl rfl
    refine zJ (wE := w) (sz := 43) (n := 3) [0, 1, 3] [(1, .val (.slice am lm cm)), (5, .val (.pointer (some ⟨g1_1, 0, none⟩))), (7, .val (.pointer (some ⟨g4_3, 0, none⟩))), (8, .val (.pointer (some ⟨g5_2, 0, none⟩))), (9, .ptr 1 0)] _ [⟨g1_0, none, none, .u8, 32, z, z, 22⟩, ⟨g1_1, none, none, .u8, 32, o, o, 22⟩, ⟨g4_3, none, none, .u8, 64, V, V, 28⟩, ⟨g5_2, none, none, .u8, 32, K, K, 22⟩, ⟨0, some 1, some 2, .u8, 64, fun _ => 0, V, 28⟩] rfl (by rfl) HH5 rfl rfl hLo rfl HS5 (slS 0 rfl rfl (slS 1 rfl rfl (slS 2 rfl rfl (slS 3 rfl rfl (slL 1 (d := 1) rfl (trivial)))))) ?_ ?_
    · show ∀ i ∈ [0, 1, 2], _
      refine zA (zH 0 2 _ rfl rfl rfl rfl (fun _ _ _ _ => rfl) hLo rfl rfl rfl (by rfl) Tryd.underlying28 infoB6 rfl (fun b G hb ho => zC rfl (HS5.get 2 rfl))) ?_
      refine zA (zK 1 4 .u8 64 28 (some 2) _ _ rfl rfl (fun _ _ _ _ => rfl) rfl hLo rfl rfl rfl rfl (by rfl) (fun b G w _ _ => by kernel_rfl)) ?_
      refine zA (zM 4 _ rfl rfl rfl rfl rfl (fun _ _ _ _ => rfl) rfl rfl rfl (by rfl) infoB6 (fun b G hb ho => zB hLo 1 rfl HS5.1 rfl (hb 1 (by rfl))) (fun b G hb ho => zB hLo 0 rfl HS5.1 rfl (hb 0 (by rfl)))) ?_
      exact zE
    clear hLo
    intro G a6 w6 hS hH
    have HS6 : Sl a6 43 [(1, .slice am lm cm), (5, .pointer (some ⟨g1_1, 0, none⟩)), (7, .pointer (some ⟨g4_3, 0, none⟩)), (8, .pointer (some ⟨g5_2, 0, none⟩)), (9, .pointer (some ⟨(G 1), 0, none⟩))] := hS
    have HH6 : Held w w6 [⟨g1_0, .u8, 32, z, 22⟩, ⟨g1_1, .u8, 32, o, 22⟩, ⟨g4_3, .u8, 64, V, 28⟩, ⟨g5_2, .u8, 32, K, 22⟩, ⟨(G 1), .u8, 64, V, 28⟩] := hH
    clear hS hH HS5 HH5
    generalize G 1 = g6_1 at HS6 HH6
    refine then_ ?_
    refine wp_seq ?_
    have hLo : LOk [(0, 21, .val (.slice (some ⟨g6_1, 32, none⟩) 32 32)), (1, 22, .val (.slice (some ⟨g1_1, 0, none⟩) 32 32)), (2, 23, .val (.int .i64 32))] := lok rfl rfl
    refine region_ (wE := w) (sz := 43) (n := 3) (B := [0, 0, 3]) [0, 1, 2] [(1, .val (.slice am lm cm)), (7, .val (.pointer (some ⟨g4_3, 0, none⟩))), (8, .val (.pointer (some ⟨g5_2, 0, none⟩))), (9, .val (.pointer (some ⟨g6_1, 0, none⟩)))] _ [⟨g1_0, none, none, .u8, 32, z, z, 22⟩, ⟨g1_1, none, none, .u8, 32, o, o, 22⟩, ⟨g4_3, none, none, .u8, 64, V, V, 28⟩, ⟨g5_2, none, none, .u8, 32, K, K, 22⟩, ⟨g6_1, none, some 2, .u8, 64, V, updR (V) 32 32 (o), 28⟩] (by rfl) rfl tablo_8 bitslo_8 (by kernel_rfl) (by kernel_rfl) HH6 rfl rfl hLo rfl HS6 (slS 0 rfl rfl (slS 2 rfl rfl (slS 3 rfl rfl (slS 4 rfl rfl (trivial))))) ?_ ?_
    · show ∀ i ∈ [0, 1, 2], _
      refine zA (zD 0 _ rfl rfl hLo rfl rfl (fun _ _ _ _ => rfl) (fun b G w hb ho => exec_slice rfl (zC rfl (HS6.get 4 rfl)) rfl rfl rfl (slc_64_32_64 _ _))) ?_
      refine zA (zD 1 _ rfl rfl hLo rfl rfl (fun _ _ _ _ => rfl) (fun b G w hb ho => exec_slice rfl (zC rfl (HS6.get 1 rfl)) rfl rfl rfl (slc_32_0_32 _ _))) ?_
      refine zA (st_cpy 2 4 _ _ rfl rfl rfl rfl (fun _ _ _ _ => rfl) hLo rfl rfl rfl (by rfl) (fun b G w hb ho hr hB hO => copy_row hr (Nat.le_of_ble_eq_true rfl) Tryd.underlying25 Fd.info5s rfl (zB hLo 0 rfl HS6.1 rfl (hb 0 (by rfl))) (zB hLo 1 rfl HS6.1 rfl (hb 1 (by rfl))) (fun j hj => by rw [add_at, Nat.zero_add]; exact (hO.at 1 rfl).cell j hj) (by decide))) ?_
      exact zE
    clear hLo
    intro G a7 w7 hS hH
    have HS7 : Sl a7 43 [(1, .slice am lm cm), (7, .pointer (some ⟨g4_3, 0, none⟩)), (8, .pointer (some ⟨g5_2, 0, none⟩)), (9, .pointer (some ⟨g6_1, 0, none⟩))] := hS
    have HH7 : Held w w7 [⟨g1_0, .u8, 32, z, 22⟩, ⟨g1_1, .u8, 32, o, 22⟩, ⟨g4_3, .u8, 64, V, 28⟩, ⟨g5_2, .u8, 32, K, 22⟩, ⟨g6_1, .u8, 64, updR (V) 32 32 (o), 28⟩] := hH
    clear hS hH HS6 HH6
    refine then_ ?_
    rw [hT0] at HH7
    cases d
    · skip
      refine wp_seq ?_
      refine wp_seq ?_
      have hLo : LOk [(0, 24, .val (.agg (FR .u8 64 (T)))), (1, 25, .val (.agg (FR .u8 64 (V)))), (2, 26, .val (.bool true)), (3, 27, .val (.bool true)), (4, 28, .val (.agg (FR .u8 32 (K)))), (5, 29, .val (.slice am lm cm)), (6, 30, .val (.agg (FR .u8 64 (T)))), (7, 31, .val (.bool false)), (8, 32, .val (.bool false))] := lok rfl rfl
      refine zJ (wE := w) (sz := 43) (n := 9) [0, 1, 3, 7, 15, 31, 63, 127, 255] [(1, .val (.slice am lm cm)), (7, .val (.pointer (some ⟨g4_3, 0, none⟩))), (8, .val (.pointer (some ⟨g5_2, 0, none⟩))), (9, .val (.pointer (some ⟨g6_1, 0, none⟩))), (32, .val (.bool false))] _ [⟨g1_0, none, none, .u8, 32, z, z, 22⟩, ⟨g1_1, none, none, .u8, 32, o, o, 22⟩, ⟨g4_3, none, none, .u8, 64, V, V, 28⟩, ⟨g5_2, none, none, .u8, 32, K, K, 22⟩, ⟨g6_1, none, none, .u8, 64, T, T, 28⟩] rfl (by rfl) HH7 rfl rfl hLo rfl HS7 (slS 0 rfl rfl (slS 1 rfl rfl (slS 2 rfl rfl (slS 3 rfl rfl (slL 8 (d := 8) rfl (trivial)))))) ?_ ?_
      · show ∀ i ∈ [0, 1, 2, 3, 4, 5, 6, 7, 8], _
        refine zA (zH 0 4 _ rfl rfl rfl rfl (fun _ _ _ _ => rfl) hLo rfl rfl rfl (by rfl) Tryd.underlying28 infoB6 rfl (fun b G hb ho => zC rfl (HS7.get 3 rfl))) ?_
        refine zA (zH 1 2 _ rfl rfl rfl rfl (fun _ _ _ _ => rfl) hLo rfl rfl rfl (by rfl) Tryd.underlying28 infoB6 rfl (fun b G hb ho => zC rfl (HS7.get 1 rfl))) ?_
        refine zA (zD 2 _ rfl rfl hLo rfl rfl (fun _ _ _ _ => rfl) (fun b G w hb ho => zV rfl (zB hLo 0 rfl HS7.1 rfl (hb 0 (by rfl))) (zB hLo 1 rfl HS7.1 rfl (hb 1 (by rfl))) (neq64_run hd _ _ _))) ?_
        refine zA (zD 3 _ rfl rfl hLo rfl rfl (fun _ _ _ _ => rfl) (fun b G w hb ho => zF (.inl rfl) (zB hLo 2 rfl HS7.1 rfl (hb 2 (by rfl))))) ?_
        refine zA (zH 4 3 _ rfl rfl rfl rfl (fun b G hb ho => zL rfl rfl rfl HS7.1 rfl (zB hLo 3 rfl HS7.1 rfl (hb 3 (by rfl))) rfl) hLo rfl rfl rfl (by rfl) Tryd.underlying22 zP rfl (fun b G hb ho => zC rfl (HS7.get 2 rfl))) ?_
        refine zA (zD 5 _ rfl rfl hLo rfl rfl (fun b G hb ho => zL rfl rfl rfl HS7.1 rfl (zB hLo 3 rfl HS7.1 rfl (hb 3 (by rfl))) rfl) (fun b G w hb ho => zF (.inl rfl) (zC rfl (HS7.get 0 rfl)))) ?_
        refine zA (zH 6 4 _ rfl rfl rfl rfl (fun b G hb ho => zL rfl rfl rfl HS7.1 rfl (zB hLo 3 rfl HS7.1 rfl (hb 3 (by rfl))) rfl) hLo rfl rfl rfl (by rfl) Tryd.underlying28 infoB6 rfl (fun b G hb ho => zC rfl (HS7.get 3 rfl))) ?_
        refine zA (zG 7 _ #[.agg (FR .u8 32 (K)), .slice am lm cm, .agg (FR .u8 64 (T))] rfl rfl rfl (fun b G hb ho => zL rfl rfl rfl HS7.1 rfl (zB hLo 3 rfl HS7.1 rfl (hb 3 (by rfl))) rfl) hLo rfl rfl Tryd.func11 rfl rfl (fun b G hb ho => args3 (zB hLo 4 rfl HS7.1 rfl (hb 4 (by rfl))) (zB hLo 5 rfl HS7.1 rfl (hb 5 (by rfl))) (zB hLo 6 rfl HS7.1 rfl (hb 6 (by rfl)))) (fun w hw => ver_as (hv2 rfl) w (hTd.to hw) (hT.to hw) (hO.to hw) hKB hTB (msg_to hM hw))) ?_
        refine zA (zD 8 _ rfl rfl hLo rfl rfl (fun _ _ _ _ => rfl) (fun b G w hb ho => exec_pick rfl (zB hLo 3 rfl HS7.1 rfl (hb 3 (by rfl))) (zB hLo 7 rfl HS7.1 rfl (hb 7 (by rfl))))) ?_
        exact zE
      clear hLo
      intro G a8 w8 hS hH
      have HS8 : Sl a8 43 [(1, .slice am lm cm), (7, .pointer (some ⟨g4_3, 0, none⟩)), (8, .pointer (some ⟨g5_2, 0, none⟩)), (9, .pointer (some ⟨g6_1, 0, none⟩)), (32, .bool false)] := hS
      have HH8 : Held w w8 [⟨g1_0, .u8, 32, z, 22⟩, ⟨g1_1, .u8, 32, o, 22⟩, ⟨g4_3, .u8, 64, V, 28⟩, ⟨g5_2, .u8, 32, K, 22⟩, ⟨g6_1, .u8, 64, T, 28⟩] := hH
      clear hS hH HS7 HH7
      refine then_ ?_
      refine wp_cond_false (HS8.get 4 rfl) ?_
      refine wp_skip ?_
      refine then_ ?_
      refine wp_seq ?_
      have hLo : LOk [(0, 33, .val (.slice (some ⟨g4_3, 32, none⟩) 32 32)), (1, 34, .val (.pointer (some ⟨g4_3, 32, none⟩))), (2, 35, .val (.agg (FR .u8 32 (s)))), (3, 36, .val (.bool true)), (4, 37, .val (.bool true)), (5, 38, .val (.agg (FR .u8 32 (K)))), (6, 39, .val (.slice am lm cm)), (7, 40, .val (.agg (FR .u8 64 (V)))), (8, 41, .val (.bool true)), (9, 42, .val (.bool true)), (10, 6, .val (.bool true))] := lok rfl rfl
      refine zJ (wE := w) (sz := 43) (n := 11) [0, 1, 3, 7, 15, 31, 63, 127, 255, 511, 1023] [(6, .val (.bool true))] _ [⟨g1_0, none, none, .u8, 32, z, z, 22⟩, ⟨g1_1, none, none, .u8, 32, o, o, 22⟩, ⟨g4_3, none, none, .u8, 64, V, V, 28⟩, ⟨g5_2, none, none, .u8, 32, K, K, 22⟩, ⟨g6_1, none, none, .u8, 64, T, T, 28⟩] rfl (by rfl) HH8 rfl rfl hLo rfl HS8 (slL 10 (d := 10) rfl (trivial)) ?_ ?_
      · show ∀ i ∈ [0, 1, 2, 3, 4, 5, 6, 7, 8, 9, 10], _
        refine zA (zD 0 _ rfl rfl hLo rfl rfl (fun _ _ _ _ => rfl) (fun b G w hb ho => exec_slice rfl (zC rfl (HS8.get 1 rfl)) rfl rfl rfl (slc_64_32_64 _ _))) ?_
        refine zA (zD 1 _ rfl rfl hLo rfl rfl (fun _ _ _ _ => rfl) (fun b G w hb ho => exec_toArr rfl (zB hLo 0 rfl HS8.1 rfl (hb 0 (by rfl))) (by kernel_rfl))) ?_
        refine zA (st_readO 2 _ rfl rfl hLo rfl rfl (fun _ _ _ _ => rfl) (fun b G w hb ho hB hO => load_as hs (exec_load_at (f := fun j => V (32 + j)) (fun j hj => by rw [add_at]; exact (hO.at 2 rfl).cell (32 + j) (Nat.add_lt_add_left hj 32)) Tryd.underlying22 zP rfl rfl (zB hLo 1 rfl HS8.1 rfl (hb 1 (by rfl)))))) ?_
        refine zA (zG 3 _ #[.agg (FR .u8 32 (s))] rfl rfl rfl (fun _ _ _ _ => rfl) hLo rfl rfl Tryd.func15 rfl rfl (fun b G hb ho => args1 (zB hLo 2 rfl HS8.1 rfl (hb 2 (by rfl)))) (fun w hw => good_as hg w (hO.to hw) hsB)) ?_
        refine zA (zD 4 _ rfl rfl hLo rfl rfl (fun _ _ _ _ => rfl) (fun b G w hb ho => zF (.inl rfl) (zB hLo 3 rfl HS8.1 rfl (hb 3 (by rfl))))) ?_
        refine zA (zH 5 3 _ rfl rfl rfl rfl (fun b G hb ho => zL rfl rfl rfl HS8.1 rfl (zB hLo 4 rfl HS8.1 rfl (hb 4 (by rfl))) rfl) hLo rfl rfl rfl (by rfl) Tryd.underlying22 zP rfl (fun b G hb ho => zC rfl (HS8.get 2 rfl))) ?_
        refine zA (zD 6 _ rfl rfl hLo rfl rfl (fun b G hb ho => zL rfl rfl rfl HS8.1 rfl (zB hLo 4 rfl HS8.1 rfl (hb 4 (by rfl))) rfl) (fun b G w hb ho => zF (.inl rfl) (zC rfl (HS8.get 0 rfl)))) ?_
        refine zA (zH 7 2 _ rfl rfl rfl rfl (fun b G hb ho => zL rfl rfl rfl HS8.1 rfl (zB hLo 4 rfl HS8.1 rfl (hb 4 (by rfl))) rfl) hLo rfl rfl rfl (by rfl) Tryd.underlying28 infoB6 rfl (fun b G hb ho => zC rfl (HS8.get 1 rfl))) ?_
        refine zA (zG 8 _ #[.agg (FR .u8 32 (K)), .slice am lm cm, .agg (FR .u8 64 (V))] rfl rfl rfl (fun b G hb ho => zL rfl rfl rfl HS8.1 rfl (zB hLo 4 rfl HS8.1 rfl (hb 4 (by rfl))) rfl) hLo rfl rfl Tryd.func11 rfl rfl (fun b G hb ho => args3 (zB hLo 5 rfl HS8.1 rfl (hb 5 (by rfl))) (zB hLo 6 rfl HS8.1 rfl (hb 6 (by rfl))) (zB hLo 7 rfl HS8.1 rfl (hb 7 (by rfl)))) (fun w hw => ver_as hv1 w (hTd.to hw) (hT.to hw) (hO.to hw) hKB hVB (msg_to hM hw))) ?_
        refine zA (zD 9 _ rfl rfl hLo rfl rfl (fun _ _ _ _ => rfl) (fun b G w hb ho => exec_pick rfl (zB hLo 4 rfl HS8.1 rfl (hb 4 (by rfl))) (zB hLo 8 rfl HS8.1 rfl (hb 8 (by rfl))))) ?_
        refine zA (zD 10 _ rfl rfl hLo rfl rfl (fun _ _ _ _ => rfl) (fun b G w hb ho => zF (.inr rfl) (zB hLo 9 rfl HS8.1 rfl (hb 9 (by rfl))))) ?_
        exact zE
      clear hLo
      intro G a9 w9 hS hH
      have HS9 : Sl a9 43 [(6, .bool true)] := hS
      have HH9 : Held w w9 [⟨g1_0, .u8, 32, z, 22⟩, ⟨g1_1, .u8, 32, o, 22⟩, ⟨g4_3, .u8, 64, V, 28⟩, ⟨g5_2, .u8, 32, K, 22⟩, ⟨g6_1, .u8, 64, T, 28⟩] := hH
      clear hS hH HS8 HH8
      refine then_ ?_
      refine wp_ret ?_
      repeat refine then_ret ?_
      exact b_tmp rfl HS9.2.1 (HS9.get 0 rfl) ⟨rfl, HH9.1⟩
    · skip
      refine wp_seq ?_
      refine wp_seq ?_
      have hLo : LOk [(0, 24, .val (.agg (FR .u8 64 (T)))), (1, 25, .val (.agg (FR .u8 64 (V)))), (2, 26, .val (.bool false)), (3, 27, .val (.bool false)), (4, 28, .val (undef)), (5, 29, .val (undef)), (6, 30, .val (undef)), (7, 31, .val (undef)), (8, 32, .val (.bool false))] := lok rfl rfl
      refine zJ (wE := w) (sz := 43) (n := 9) [0, 1, 3, 7, 15, 31, 63, 127, 255] [(1, .val (.slice am lm cm)), (7, .val (.pointer (some ⟨g4_3, 0, none⟩))), (8, .val (.pointer (some ⟨g5_2, 0, none⟩))), (9, .val (.pointer (some ⟨g6_1, 0, none⟩))), (32, .val (.bool false))] _ [⟨g1_0, none, none, .u8, 32, z, z, 22⟩, ⟨g1_1, none, none, .u8, 32, o, o, 22⟩, ⟨g4_3, none, none, .u8, 64, V, V, 28⟩, ⟨g5_2, none, none, .u8, 32, K, K, 22⟩, ⟨g6_1, none, none, .u8, 64, T, T, 28⟩] rfl (by rfl) HH7 rfl rfl hLo rfl HS7 (slS 0 rfl rfl (slS 1 rfl rfl (slS 2 rfl rfl (slS 3 rfl rfl (slL 8 (d := 8) rfl (trivial)))))) ?_ ?_
      · show ∀ i ∈ [0, 1, 2, 3, 4, 5, 6, 7, 8], _
        refine zA (zH 0 4 _ rfl rfl rfl rfl (fun _ _ _ _ => rfl) hLo rfl rfl rfl (by rfl) Tryd.underlying28 infoB6 rfl (fun b G hb ho => zC rfl (HS7.get 3 rfl))) ?_
        refine zA (zH 1 2 _ rfl rfl rfl rfl (fun _ _ _ _ => rfl) hLo rfl rfl rfl (by rfl) Tryd.underlying28 infoB6 rfl (fun b G hb ho => zC rfl (HS7.get 1 rfl))) ?_
        refine zA (zD 2 _ rfl rfl hLo rfl rfl (fun _ _ _ _ => rfl) (fun b G w hb ho => zV rfl (zB hLo 0 rfl HS7.1 rfl (hb 0 (by rfl))) (zB hLo 1 rfl HS7.1 rfl (hb 1 (by rfl))) (neq64_run hd _ _ _))) ?_
        refine zA (zD 3 _ rfl rfl hLo rfl rfl (fun _ _ _ _ => rfl) (fun b G w hb ho => zF (.inl rfl) (zB hLo 2 rfl HS7.1 rfl (hb 2 (by rfl))))) ?_
        refine zA (st_skip 4 rfl rfl hLo rfl rfl (fun b G hb ho => zL rfl rfl rfl HS7.1 rfl (zB hLo 3 rfl HS7.1 rfl (hb 3 (by rfl))) rfl)) ?_
        refine zA (st_skip 5 rfl rfl hLo rfl rfl (fun b G hb ho => zL rfl rfl rfl HS7.1 rfl (zB hLo 3 rfl HS7.1 rfl (hb 3 (by rfl))) rfl)) ?_
        refine zA (st_skip 6 rfl rfl hLo rfl rfl (fun b G hb ho => zL rfl rfl rfl HS7.1 rfl (zB hLo 3 rfl HS7.1 rfl (hb 3 (by rfl))) rfl)) ?_
        refine zA (st_skip 7 rfl rfl hLo rfl rfl (fun b G hb ho => zL rfl rfl rfl HS7.1 rfl (zB hLo 3 rfl HS7.1 rfl (hb 3 (by rfl))) rfl)) ?_
        refine zA (zD 8 _ rfl rfl hLo rfl rfl (fun _ _ _ _ => rfl) (fun b G w hb ho => exec_pick rfl (zB hLo 3 rfl HS7.1 rfl (hb 3 (by rfl))) (rfl))) ?_
        exact zE
      clear hLo
      intro G a10 w10 hS hH
      have HS10 : Sl a10 43 [(1, .slice am lm cm), (7, .pointer (some ⟨g4_3, 0, none⟩)), (8, .pointer (some ⟨g5_2, 0, none⟩)), (9, .pointer (some ⟨g6_1, 0, none⟩)), (32, .bool false)] := hS
      have HH10 : Held w w10 [⟨g1_0, .u8, 32, z, 22⟩, ⟨g1_1, .u8, 32, o, 22⟩, ⟨g4_3, .u8, 64, V, 28⟩, ⟨g5_2, .u8, 32, K, 22⟩, ⟨g6_1, .u8, 64, T, 28⟩] := hH
      clear hS hH HS7 HH7
      refine then_ ?_
      refine wp_cond_false (HS10.get 4 rfl) ?_
      refine wp_skip ?_
      refine then_ ?_
      refine wp_seq ?_
      have hLo : LOk [(0, 33, .val (.slice (some ⟨g4_3, 32, none⟩) 32 32)), (1, 34, .val (.pointer (some ⟨g4_3, 32, none⟩))), (2, 35, .val (.agg (FR .u8 32 (s)))), (3, 36, .val (.bool true)), (4, 37, .val (.bool true)), (5, 38, .val (.agg (FR .u8 32 (K)))), (6, 39, .val (.slice am lm cm)), (7, 40, .val (.agg (FR .u8 64 (V)))), (8, 41, .val (.bool true)), (9, 42, .val (.bool true)), (10, 6, .val (.bool true))] := lok rfl rfl
      refine zJ (wE := w) (sz := 43) (n := 11) [0, 1, 3, 7, 15, 31, 63, 127, 255, 511, 1023] [(6, .val (.bool true))] _ [⟨g1_0, none, none, .u8, 32, z, z, 22⟩, ⟨g1_1, none, none, .u8, 32, o, o, 22⟩, ⟨g4_3, none, none, .u8, 64, V, V, 28⟩, ⟨g5_2, none, none, .u8, 32, K, K, 22⟩, ⟨g6_1, none, none, .u8, 64, T, T, 28⟩] rfl (by rfl) HH10 rfl rfl hLo rfl HS10 (slL 10 (d := 10) rfl (trivial)) ?_ ?_
      · show ∀ i ∈ [0, 1, 2, 3, 4, 5, 6, 7, 8, 9, 10], _
        refine zA (zD 0 _ rfl rfl hLo rfl rfl (fun _ _ _ _ => rfl) (fun b G w hb ho => exec_slice rfl (zC rfl (HS10.get 1 rfl)) rfl rfl rfl (slc_64_32_64 _ _))) ?_
        refine zA (zD 1 _ rfl rfl hLo rfl rfl (fun _ _ _ _ => rfl) (fun b G w hb ho => exec_toArr rfl (zB hLo 0 rfl HS10.1 rfl (hb 0 (by rfl))) (by kernel_rfl))) ?_
        refine zA (st_readO 2 _ rfl rfl hLo rfl rfl (fun _ _ _ _ => rfl) (fun b G w hb ho hB hO => load_as hs (exec_load_at (f := fun j => V (32 + j)) (fun j hj => by rw [add_at]; exact (hO.at 2 rfl).cell (32 + j) (Nat.add_lt_add_left hj 32)) Tryd.underlying22 zP rfl rfl (zB hLo 1 rfl HS10.1 rfl (hb 1 (by rfl)))))) ?_
        refine zA (zG 3 _ #[.agg (FR .u8 32 (s))] rfl rfl rfl (fun _ _ _ _ => rfl) hLo rfl rfl Tryd.func15 rfl rfl (fun b G hb ho => args1 (zB hLo 2 rfl HS10.1 rfl (hb 2 (by rfl)))) (fun w hw => good_as hg w (hO.to hw) hsB)) ?_
        refine zA (zD 4 _ rfl rfl hLo rfl rfl (fun _ _ _ _ => rfl) (fun b G w hb ho => zF (.inl rfl) (zB hLo 3 rfl HS10.1 rfl (hb 3 (by rfl))))) ?_
        refine zA (zH 5 3 _ rfl rfl rfl rfl (fun b G hb ho => zL rfl rfl rfl HS10.1 rfl (zB hLo 4 rfl HS10.1 rfl (hb 4 (by rfl))) rfl) hLo rfl rfl rfl (by rfl) Tryd.underlying22 zP rfl (fun b G hb ho => zC rfl (HS10.get 2 rfl))) ?_
        refine zA (zD 6 _ rfl rfl hLo rfl rfl (fun b G hb ho => zL rfl rfl rfl HS10.1 rfl (zB hLo 4 rfl HS10.1 rfl (hb 4 (by rfl))) rfl) (fun b G w hb ho => zF (.inl rfl) (zC rfl (HS10.get 0 rfl)))) ?_
        refine zA (zH 7 2 _ rfl rfl rfl rfl (fun b G hb ho => zL rfl rfl rfl HS10.1 rfl (zB hLo 4 rfl HS10.1 rfl (hb 4 (by rfl))) rfl) hLo rfl rfl rfl (by rfl) Tryd.underlying28 infoB6 rfl (fun b G hb ho => zC rfl (HS10.get 1 rfl))) ?_
        refine zA (zG 8 _ #[.agg (FR .u8 32 (K)), .slice am lm cm, .agg (FR .u8 64 (V))] rfl rfl rfl (fun b G hb ho => zL rfl rfl rfl HS10.1 rfl (zB hLo 4 rfl HS10.1 rfl (hb 4 (by rfl))) rfl) hLo rfl rfl Tryd.func11 rfl rfl (fun b G hb ho => args3 (zB hLo 5 rfl HS10.1 rfl (hb 5 (by rfl))) (zB hLo 6 rfl HS10.1 rfl (hb 6 (by rfl))) (zB hLo 7 rfl HS10.1 rfl (hb 7 (by rfl)))) (fun w hw => ver_as hv1 w (hTd.to hw) (hT.to hw) (hO.to hw) hKB hVB (msg_to hM hw))) ?_
        refine zA (zD 9 _ rfl rfl hLo rfl rfl (fun _ _ _ _ => rfl) (fun b G w hb ho => exec_pick rfl (zB hLo 4 rfl HS10.1 rfl (hb 4 (by rfl))) (zB hLo 8 rfl HS10.1 rfl (hb 8 (by rfl))))) ?_
        refine zA (zD 10 _ rfl rfl hLo rfl rfl (fun _ _ _ _ => rfl) (fun b G w hb ho => zF (.inr rfl) (zB hLo 9 rfl HS10.1 rfl (hb 9 (by rfl))))) ?_
        exact zE
      clear hLo
      intro G a11 w11 hS hH
      have HS11 : Sl a11 43 [(6, .bool true)] := hS
      have HH11 : Held w w11 [⟨g1_0, .u8, 32, z, 22⟩, ⟨g1_1, .u8, 32, o, 22⟩, ⟨g4_3, .u8, 64, V, 28⟩, ⟨g5_2, .u8, 32, K, 22⟩, ⟨g6_1, .u8, 64, T, 28⟩] := hH
      clear hS hH HS10 HH10
      refine then_ ?_
      refine wp_ret ?_
      repeat refine then_ret ?_
      exact b_tmp rfl HS11.2.1 (HS11.get 0 rfl) ⟨rfl, HH11.1⟩
  · skip
    refine wp_seq ?_
    refine wp_seq ?_
    have hLo : LOk [(0, 12, .val (.slice am lm cm)), (1, 13, .val (.int .i64 (lm : Int))), (2, 14, .val (.bool true))] := lok rfl rfl
    refine zJ (wE := w) (sz := 43) (n := 3) [0, 1, 3] [(14, .val (.bool true))] _ [⟨g1_0, none, none, .u8, 32, z, z, 22⟩, ⟨g1_1, none, none, .u8, 32, o, o, 22⟩] rfl (by rfl) HH2 rfl rfl hLo rfl HS2 (slL 2 (d := 2) rfl (trivial)) ?_ ?_
    · show ∀ i ∈ [0, 1, 2], _
      refine zA (zD 0 _ rfl rfl hLo rfl rfl (fun _ _ _ _ => rfl) (fun b G w hb ho => zF (.inl rfl) (zC rfl (HS2.get 0 rfl)))) ?_
      refine zA (zD 1 _ rfl rfl hLo rfl rfl (fun _ _ _ _ => rfl) (fun b G w hb ho => exec_len rfl (zB hLo 0 rfl HS2.1 rfl (hb 0 (by rfl))))) ?_
      refine zA (zD 2 _ rfl rfl hLo rfl rfl (fun _ _ _ _ => rfl) (fun b G w hb ho => zV rfl (zB hLo 1 rfl HS2.1 rfl (hb 1 (by rfl))) (rfl) (gtr_run hr _ _ _))) ?_
      exact zE
    clear hLo
    intro G a12 w12 hS hH
    have HS12 : Sl a12 43 [(14, .bool true)] := hS
    have HH12 : Held w w12 [⟨g1_0, .u8, 32, z, 22⟩, ⟨g1_1, .u8, 32, o, 22⟩] := hH
    clear hS hH HS2 HH2
    refine then_ ?_
    refine wp_cond_true (HS12.get 0 rfl) ?_
    refine wp_seq ?_
    have hLo : LOk [(0, 6, .val (.bool true))] := lok rfl rfl
    refine zJ (wE := w) (sz := 43) (n := 1) [0] [(6, .val (.bool true))] _ [⟨g1_0, none, none, .u8, 32, z, z, 22⟩, ⟨g1_1, none, none, .u8, 32, o, o, 22⟩] rfl (by rfl) HH12 rfl rfl hLo rfl HS12 (slL 0 (d := 0) rfl (trivial)) ?_ ?_
    · show ∀ i ∈ [0], _
      refine zA (zD 0 _ rfl rfl hLo rfl rfl (fun _ _ _ _ => rfl) (fun b G w hb ho => zF (.inr rfl) (rfl))) ?_
      exact zE
    clear hLo
    intro G a13 w13 hS hH
    have HS13 : Sl a13 43 [(6, .bool true)] := hS
    have HH13 : Held w w13 [⟨g1_0, .u8, 32, z, 22⟩, ⟨g1_1, .u8, 32, o, 22⟩] := hH
    clear hS hH HS12 HH12
    refine then_ ?_
    refine wp_ret ?_
    repeat refine then_ret ?_
    exact b_tmp rfl HS13.2.1 (HS13.get 0 rfl) ⟨rfl, HH13.1⟩
theorem tablb_7 : rtab .any (opsOf Tryd.f6 7) = (true, [([], []), ([0], [0]), ([], []), ([], []), ([1, 2, 3, 1], [1, 2, 3]), ([4, 4], [4]), ([5], [5]), ([6, 5], [5, 6]), ([5], [5]), ([8, 5], [5, 8]), ([7, 9, 5], [5, 7, 9]), ([5, 10], [5, 10]), ([11, 5], [11]), ([12], [12]), ([12], [12]), ([13, 14, 12, 12], [12, 13, 14]), ([12], [12]), ([15, 16, 12], [12, 15, 16]), ([12, 17], [12, 17]), ([18, 15, 0, 1, 2, 3, 4, 5, 6, 7, 8, 9, 10, 11, 12, 13, 14, 15, 16, 17, 18], [18])]) := by kernel_rfl
theorem bitslb_7 : zS [([], []), ([0], [0]), ([], []), ([], []), ([1, 2, 3, 1], [1, 2, 3]), ([4, 4], [4]), ([5], [5]), ([6, 5], [5, 6]), ([5], [5]), ([8, 5], [5, 8]), ([7, 9, 5], [5, 7, 9]), ([5, 10], [5, 10]), ([11, 5], [11]), ([12], [12]), ([12], [12]), ([13, 14, 12, 12], [12, 13, 14]), ([12], [12]), ([15, 16, 12], [12, 15, 16]), ([12, 17], [12, 17]), ([18, 15, 0, 1, 2, 3, 4, 5, 6, 7, 8, 9, 10, 11, 12, 13, 14, 15, 16, 17, 18], [18])] [0, 1, 0, 0, 15, 31, 63, 127, 63, 319, 1023, 2047, 4095, 8191, 8191, 32767, 8191, 131071, 262143, 524287] = true := by kernel_rfl
theorem SignBack_walk (z : Nat → Int) (am : Option Addr) (lm cm : Nat) (zs : List Int) (w : World) (hTT : Dg.Tab w ∧ TabD w ∧ Ord w) (w0 : ∀ i, i < 32 → (Lit.int .u8 (z i)).wf = true) (hin : IsRowB w am lm cm zs) (y1 : lm * 1 ≤ 140737488351232) : Calls Tryd.prog 6 #[.agg (FR .u8 32 z), .slice am lm cm] w fun e w' => e = .returned (.bool true) ∧ Below w.heap.size w w' := by
  obtain ⟨hTd, hT, hO⟩ := hTT
  obtain ⟨zm, hzm⟩ : ∃ zm, (fun j => zs.getD j 0) = zm := ⟨_, rfl⟩
  obtain ⟨r, hr⟩ : ∃ r, decide ((1024 : Int) < (lm : Int)) = r := ⟨_, rfl⟩
  have hz := By_wf w0
  obtain ⟨V, hV⟩ : ∃ V, sigV z lm zm = V := ⟨_, rfl⟩
  have hVB : ∀ j, j < 64 → 0 ≤ V j ∧ V j < 256 := by rw [← hV]; exact sigV_b z lm zm
  obtain ⟨K, hK⟩ : ∃ K, pubK z = K := ⟨_, rfl⟩
  have hKB : Fd.By K := by rw [← hK]; exact ptB_By _
  have hv1 : verV K lm zm V = true := by rw [← hK, ← hV]; exact sign_ver
  have hs64 : sameRow 64 V V = true := (sameRow_iff _ _ _).2 (fun _ _ => rfl)
  refine enter_ 37 Tryd.func6 rfl rfl (fun a0 hS => ?_)
  have HS0 : Sl a0 37 [(0, .agg (FR .u8 32 z)), (1, .slice am lm cm)] := hS
  have HH0 : Held w w [] := Held.first w
  clear hS
  refine wp_seq ?_
  have hLo : LOk [(0, 2, .ptr 0 0), (1, 4, .val (.bool false))] := lok rfl rfl
  refine zJ (wE := w) (sz := 37) (n := 2) [0, 1] [(1, .val (.slice am lm cm)), (2, .ptr 0 0)] _ [⟨0, some 0, none, .u8, 32, z, z, 22⟩] rfl (by rfl) HH0 rfl rfl hLo rfl HS0 (slS 1 rfl rfl (slL 0 (d := 0) rfl (trivial))) ?_ ?_
  · show ∀ i ∈ [0, 1], _
    refine zA (zK 0 0 .u8 32 22 none _ _ rfl rfl (fun _ _ _ _ => rfl) rfl hLo rfl rfl rfl rfl (by rfl) (fun b G w hb ho => exec_box rfl (zC rfl (HS0.get 0 rfl)) (by kernel_rfl))) ?_
    refine zA (zD 1 _ rfl rfl hLo rfl rfl (fun _ _ _ _ => rfl) (fun b G w hb ho => zF (.inr rfl) (rfl))) ?_
    exact zE
  clear hLo
  intro G a1 w1 hS hH
  have HS1 : Sl a1 37 [(1, .slice am lm cm), (2, .pointer (some ⟨(G 0), 0, none⟩))] := hS
  have HH1 : Held w w1 [⟨(G 0), .u8, 32, z, 22⟩] := hH
  clear hS hH HS0 HH0
  generalize G 0 = g1_0 at HS1 HH1
  refine then_ ?_
  refine wp_seq ?_
  refine wp_seq ?_
  have hLo : LOk [(0, 7, .val (.bool true)), (1, 8, .val (.bool false))] := lok rfl rfl
  refine zJ (wE := w) (sz := 37) (n := 2) [0, 1] [(1, .val (.slice am lm cm)), (2, .val (.pointer (some ⟨g1_0, 0, none⟩))), (8, .val (.bool false))] _ [⟨g1_0, none, none, .u8, 32, z, z, 22⟩] rfl (by rfl) HH1 rfl rfl hLo rfl HS1 (slS 0 rfl rfl (slS 1 rfl rfl (slL 1 (d := 1) rfl (trivial)))) ?_ ?_
  · show ∀ i ∈ [0, 1], _
    refine zA (zG 0 _ #[] rfl rfl rfl (fun _ _ _ _ => rfl) hLo rfl rfl Tryd.func8 rfl rfl (fun b G hb ho => args0 ) (fun w hw => alive_calls w (hTd.to hw) (hT.to hw))) ?_
    refine zA (zD 1 _ rfl rfl hLo rfl rfl (fun _ _ _ _ => rfl) (fun b G w hb ho => exec_un rfl (zB hLo 0 rfl HS1.1 rfl (hb 0 (by rfl))) (by rfl))) ?_
    exact zE
  clear hLo
  intro G a2 w2 hS hH
  have HS2 : Sl a2 37 [(1, .slice am lm cm), (2, .pointer (some ⟨g1_0, 0, none⟩)), (8, .bool false)] := hS
  have HH2 : Held w w2 [⟨g1_0, .u8, 32, z, 22⟩] := hH
  clear hS hH HS1 HH1
  refine then_ ?_
  refine wp_cond_false (HS2.get 2 rfl) ?_
  refine wp_skip ?_
  refine then_ ?_
  cases r
  · skip
    have hl : lm ≤ 1024 := by have := of_decide_eq_false hr; omega
    have hM := msg_of hin hl
    rw [hzm] at hM
    have hm := (hM w (Below.refl _ _)).2.2.2
    refine wp_seq ?_
    refine wp_seq ?_
    have hLo : LOk [(0, 9, .val (.slice am lm cm)), (1, 10, .val (.int .i64 (lm : Int))), (2, 11, .val (.bool false))] := lok rfl rfl
    refine zJ (wE := w) (sz := 37) (n := 3) [0, 1, 3] [(1, .val (.slice am lm cm)), (2, .val (.pointer (some ⟨g1_0, 0, none⟩))), (11, .val (.bool false))] _ [⟨g1_0, none, none, .u8, 32, z, z, 22⟩] rfl (by rfl) HH2 rfl rfl hLo rfl HS2 (slS 0 rfl rfl (slS 1 rfl rfl (slL 2 (d := 2) rfl (trivial)))) ?_ ?_
    · show ∀ i ∈ [0, 1, 2], _
      refine zA (zD 0 _ rfl rfl hLo rfl rfl (fun _ _ _ _ => rfl) (fun b G w hb ho => zF (.inl rfl) (zC rfl (HS2.get 0 rfl)))) ?_
      refine zA (zD 1 _ rfl rfl hLo rfl rfl (fun _ _ _ _ => rfl) (fun b G w hb ho => exec_len rfl (zB hLo 0 rfl HS2.1 rfl (hb 0 (by rfl))))) ?_
      refine zA (zD 2 _ rfl rfl hLo rfl rfl (fun _ _ _ _ => rfl) (fun b G w hb ho => zV rfl (zB hLo 1 rfl HS2.1 rfl (hb 1 (by rfl))) (rfl) (gtr_run hr _ _ _))) ?_
      exact zE
    clear hLo
    intro G a3 w3 hS hH
    have HS3 : Sl a3 37 [(1, .slice am lm cm), (2, .pointer (some ⟨g1_0, 0, none⟩)), (11, .bool false)] := hS
    have HH3 : Held w w3 [⟨g1_0, .u8, 32, z, 22⟩] := hH
    clear hS hH HS2 HH2
    refine then_ ?_
    refine wp_cond_false (HS3.get 2 rfl) ?_
    refine wp_skip ?_
    refine then_ ?_
    refine wp_seq (wp_region_list ?_)
    have HR : Row w3 g1_0 .u8 32 z 22 := HH3.row 0 rfl
    have HGl : g1_0 < w3.heap.size := HR.lt
    have HB := HH3.1
    refine l_run rfl rfl HS3 rfl rfl (exec_buildSlice rfl parts0 (show (Instr.buildSlice 25 0 #[]).run Tryd.prog w3 = .ok (.slice (some ⟨w3.heap.size, 0, none⟩) 0 0) (w3.alloc (.cells #[] 5)) by kernel_rfl)) (fun b2 HT2 => ?_)
    refine l_run rfl rfl HT2 rfl rfl (zF (.inl rfl) (HT2.get 1 rfl)) (fun b3 HT3 => ?_)
    have HBa := HB.alloc HB.size (.cells #[] 5)
    have HRa := HR.alloc (.cells #[] 5)
    have HO0 : OwnS 5 .u8 (w3.alloc (.cells #[] 5)) w3.heap.size (.slice (some ⟨w3.heap.size, 0, none⟩) 0 0) 0 zm := OwnS.made w3 0 zm (Nat.le_refl _) (by unfold maxLen; omega)
    have hMa := hM _ HBa
    refine step_append HO0 hMa.1 Tryd.underlying25 Dg.info8p rfl rfl rfl (HT3.get 1 rfl) (HT3.get 0 rfl) hMa.2.1 (by unfold maxLen; omega) (by omega) (by simp) ?_
    intro v6 w6 ho6 hg6 _ _
    rw [Nat.zero_add] at ho6
    have ho6 := ho6.congr (z' := zm) (fun j _ => if_neg (Nat.not_lt_zero j))
    have hown := HO0.lt
    have HB6 : Below w.heap.size w w6 := grown_bel HBa hg6 HBa.size (fun b e => Nat.le_trans HB.size (hown b e).1)
    have HR6 : Row w6 g1_0 .u8 32 z 22 := (hg6.block g1_0 HRa.lt (fun e => by have := (hown _ e.symm).1; omega)).trans HRa
    obtain ⟨an, cn, rfl, hnum6, hcn⟩ := ho6.numsAt
    refine l_run (t := 5) rfl rfl (HT3.put rfl rfl) rfl rfl (zF (.inr rfl) ((HT3.put rfl rfl).get 0 rfl)) (fun b5 HT5 => ?_)
    refine wpList_nil (then_ ?_)
    have HSx : Sl b5 37 [(1, .slice am lm cm), (2, .pointer (some ⟨g1_0, 0, none⟩)), (5, .slice an lm cn)] := sl_tell HT5 (by simp)
    have HHx : Held w6 w6 [] := Held.first w6
    have hTd := hTd.to HB6
    have hT := hT.to HB6
    have hO := hO.to HB6
    have hM := msg_to hM HB6
    have hMm : ∀ w', Below w6.heap.size w6 w' → Dg.Msg w' an lm cn zm := fun w' hb => ⟨hnum6.below hb hnum6.lt, hcn, by omega, hm⟩
    have HZ : ∀ w', Below w6.heap.size w6 w' → Row w' g1_0 .u8 32 z 22 := fun w' hb => HR6.below hb HR6.lt
    clear HT2 HT3 HT5 HO0 hMa ho6 hg6 hown hnum6 HRa HBa HR HGl HB HS3 HH3
    refine wp_seq ?_
    have hLo : LOk [(0, 15, .val (.agg (FR .u8 32 (z)))), (1, 16, .val (.slice an lm cn)), (2, 17, .val (.agg (FR .u8 64 (V)))), (3, 6, .ptr 3 0)] := lok rfl rfl
    refine zJ (wE := w6) (sz := 37) (n := 5) [0, 1, 3, 7, 15] [(1, .val (.slice am lm cm)), (2, .val (.pointer (some ⟨g1_0, 0, none⟩))), (5, .val (.slice an lm cn)), (6, .ptr 3 0)] _ [⟨0, some 3, some 4, .u8, 64, fun _ => 0, V, 28⟩] rfl (by rfl) HHx rfl rfl hLo rfl HSx (slS 0 rfl rfl (slS 1 rfl rfl (slS 2 rfl rfl (slL 3 (d := 3) rfl (trivial))))) ?_ ?_
    · show ∀ i ∈ [0, 1, 2, 3, 4], _
      refine zA (st_readO 0 _ rfl rfl hLo rfl rfl (fun _ _ _ _ => rfl) (fun b G w hb ho hB hO => exec_load (HZ w hB) Tryd.underlying22 zP rfl rfl (zC rfl (HSx.get 1 rfl)))) ?_
      refine zA (zD 1 _ rfl rfl hLo rfl rfl (fun _ _ _ _ => rfl) (fun b G w hb ho => zF (.inl rfl) (zC rfl (HSx.get 2 rfl)))) ?_
      refine zA (zG 2 _ #[.agg (FR .u8 32 (z)), .slice an lm cn] rfl rfl rfl (fun _ _ _ _ => rfl) hLo rfl rfl Tryd.func13 rfl rfl (fun b G hb ho => args2 (zB hLo 0 rfl HSx.1 rfl (hb 0 (by rfl))) (zB hLo 1 rfl HSx.1 rfl (hb 1 (by rfl)))) (fun w hw => sig_as hV w (hTd.to hw) (hT.to hw) (hO.to hw) hz (msg_to hMm hw))) ?_
      refine zA (zK 3 0 .u8 64 28 (some 4) _ _ rfl rfl (fun _ _ _ _ => rfl) rfl hLo rfl rfl rfl rfl (by rfl) (fun b G w _ _ => by kernel_rfl)) ?_
      refine zA (zM 0 _ rfl rfl rfl rfl rfl (fun _ _ _ _ => rfl) rfl rfl rfl (by rfl) infoB6 (fun b G hb ho => zB hLo 3 rfl HSx.1 rfl (hb 3 (by rfl))) (fun b G hb ho => zB hLo 2 rfl HSx.1 rfl (hb 2 (by rfl)))) ?_
      exact zE
    clear hLo
    intro G a4 w4 hS hH
    have HS4 : Sl a4 37 [(1, .slice am lm cm), (2, .pointer (some ⟨g1_0, 0, none⟩)), (5, .slice an lm cn), (6, .pointer (some ⟨(G 3), 0, none⟩))] := hS
    have HH4 : Held w6 w4 [⟨(G 3), .u8, 64, V, 28⟩] := hH
    clear hS hH HSx HHx
    generalize G 3 = g4_3 at HS4 HH4
    refine then_ ?_
    refine wp_seq ?_
    have hLo : LOk [(0, 18, .val (.agg (FR .u8 32 (z)))), (1, 19, .val (.agg (FR .u8 32 (K)))), (2, 20, .val (.slice an lm cn)), (3, 21, .val (.agg (FR .u8 64 (V)))), (4, 22, .val (.bool true)), (5, 23, .val (.bool true)), (6, 24, .val (.slice an lm cn)), (7, 25, .val (.string (Dg.sN lm (zm)))), (8, 26, .val (.slice am lm cm)), (9, 27, .val (.string (Dg.sN lm (zm)))), (10, 28, .val (.bool true)), (11, 29, .val (.bool true)), (12, 30, .val (.bool true)), (13, 31, .val (.agg (FR .u8 32 (z)))), (14, 32, .val (.slice am lm cm)), (15, 33, .val (.agg (FR .u8 64 (V)))), (16, 34, .val (.agg (FR .u8 64 (V)))), (17, 35, .val (.bool true)), (18, 36, .val (.bool true)), (19, 4, .val (.bool true))] := lok rfl rfl
    refine region_ (wE := w6) (sz := 37) (n := 20) (B := [0, 1, 0, 0, 15, 31, 63, 127, 63, 319, 1023, 2047, 4095, 8191, 8191, 32767, 8191, 131071, 262143, 524287]) [0, 1, 2, 3, 4, 5, 6, 7, 8, 9, 10, 11, 12, 13, 14, 15, 16, 17, 18, 19] [(4, .val (.bool true))] _ [⟨g4_3, none, none, .u8, 64, V, V, 28⟩] (by rfl) rfl tablb_7 bitslb_7 (by kernel_rfl) (by kernel_rfl) HH4 rfl rfl hLo rfl HS4 (slL 19 (d := 19) rfl (trivial)) ?_ ?_
    · show ∀ i ∈ [0, 1, 2, 3, 4, 5, 6, 7, 8, 9, 10, 11, 12, 13, 14, 15, 16, 17, 18, 19], _
      refine zA (st_readO 0 _ rfl rfl hLo rfl rfl (fun _ _ _ _ => rfl) (fun b G w hb ho hB hO => exec_load (HZ w hB) Tryd.underlying22 zP rfl rfl (zC rfl (HS4.get 1 rfl)))) ?_
      refine zA (zG 1 _ #[.agg (FR .u8 32 (z))] rfl rfl rfl (fun _ _ _ _ => rfl) hLo rfl rfl Tryd.func9 rfl rfl (fun b G hb ho => args1 (zB hLo 0 rfl HS4.1 rfl (hb 0 (by rfl)))) (fun w hw => pub_as hK w (hTd.to hw) (hT.to hw) hz)) ?_
      refine zA (zD 2 _ rfl rfl hLo rfl rfl (fun _ _ _ _ => rfl) (fun b G w hb ho => zF (.inl rfl) (zC rfl (HS4.get 2 rfl)))) ?_
      refine zA (zH 3 0 _ rfl rfl rfl rfl (fun _ _ _ _ => rfl) hLo rfl rfl rfl (by rfl) Tryd.underlying28 infoB6 rfl (fun b G hb ho => zC rfl (HS4.get 3 rfl))) ?_
      refine zA (zG 4 _ #[.agg (FR .u8 32 (K)), .slice an lm cn, .agg (FR .u8 64 (V))] rfl rfl rfl (fun _ _ _ _ => rfl) hLo rfl rfl Tryd.func11 rfl rfl (fun b G hb ho => args3 (zB hLo 1 rfl HS4.1 rfl (hb 1 (by rfl))) (zB hLo 2 rfl HS4.1 rfl (hb 2 (by rfl))) (zB hLo 3 rfl HS4.1 rfl (hb 3 (by rfl)))) (fun w hw => ver_as hv1 w (hTd.to hw) (hT.to hw) (hO.to hw) hKB hVB (msg_to hMm hw))) ?_
      refine zA (zD 5 _ rfl rfl hLo rfl rfl (fun _ _ _ _ => rfl) (fun b G w hb ho => zF (.inl rfl) (zB hLo 4 rfl HS4.1 rfl (hb 4 (by rfl))))) ?_
      refine zA (zD 6 _ rfl rfl hLo rfl rfl (fun b G hb ho => zL rfl rfl rfl HS4.1 rfl (zB hLo 5 rfl HS4.1 rfl (hb 5 (by rfl))) rfl) (fun b G w hb ho => zF (.inl rfl) (zC rfl (HS4.get 2 rfl)))) ?_
      refine zA (st_readO 7 _ rfl rfl hLo rfl rfl (fun b G hb ho => zL rfl rfl rfl HS4.1 rfl (zB hLo 5 rfl HS4.1 rfl (hb 5 (by rfl))) rfl) (fun b G w hb ho hB hO => exec_convert rfl (zB hLo 6 rfl HS4.1 rfl (hb 6 (by rfl))) (conv_nums (hMm w hB).1 (hMm w hB).2.2.2))) ?_
      refine zA (zD 8 _ rfl rfl hLo rfl rfl (fun b G hb ho => zL rfl rfl rfl HS4.1 rfl (zB hLo 5 rfl HS4.1 rfl (hb 5 (by rfl))) rfl) (fun b G w hb ho => zF (.inl rfl) (zC rfl (HS4.get 0 rfl)))) ?_
      refine zA (st_readO 9 _ rfl rfl hLo rfl rfl (fun b G hb ho => zL rfl rfl rfl HS4.1 rfl (zB hLo 5 rfl HS4.1 rfl (hb 5 (by rfl))) rfl) (fun b G w hb ho hB hO => exec_convert rfl (zB hLo 8 rfl HS4.1 rfl (hb 8 (by rfl))) (conv_nums (hM w hB).1 (hM w hB).2.2.2))) ?_
      refine zA (zD 10 _ rfl rfl hLo rfl rfl (fun b G hb ho => zL rfl rfl rfl HS4.1 rfl (zB hLo 5 rfl HS4.1 rfl (hb 5 (by rfl))) rfl) (fun b G w hb ho => zV rfl (zB hLo 7 rfl HS4.1 rfl (hb 7 (by rfl))) (zB hLo 9 rfl HS4.1 rfl (hb 9 (by rfl))) (eqS_run (str_self _) _ _ _))) ?_
      refine zA (zD 11 _ rfl rfl hLo rfl rfl (fun _ _ _ _ => rfl) (fun b G w hb ho => exec_pick rfl (zB hLo 5 rfl HS4.1 rfl (hb 5 (by rfl))) (zB hLo 10 rfl HS4.1 rfl (hb 10 (by rfl))))) ?_
      refine zA (zD 12 _ rfl rfl hLo rfl rfl (fun _ _ _ _ => rfl) (fun b G w hb ho => zF (.inl rfl) (zB hLo 11 rfl HS4.1 rfl (hb 11 (by rfl))))) ?_
      refine zA (st_readO 13 _ rfl rfl hLo rfl rfl (fun b G hb ho => zL rfl rfl rfl HS4.1 rfl (zB hLo 12 rfl HS4.1 rfl (hb 12 (by rfl))) rfl) (fun b G w hb ho hB hO => exec_load (HZ w hB) Tryd.underlying22 zP rfl rfl (zC rfl (HS4.get 1 rfl)))) ?_
      refine zA (zD 14 _ rfl rfl hLo rfl rfl (fun b G hb ho => zL rfl rfl rfl HS4.1 rfl (zB hLo 12 rfl HS4.1 rfl (hb 12 (by rfl))) rfl) (fun b G w hb ho => zF (.inl rfl) (zC rfl (HS4.get 0 rfl)))) ?_
      refine zA (zG 15 _ #[.agg (FR .u8 32 (z)), .slice am lm cm] rfl rfl rfl (fun b G hb ho => zL rfl rfl rfl HS4.1 rfl (zB hLo 12 rfl HS4.1 rfl (hb 12 (by rfl))) rfl) hLo rfl rfl Tryd.func13 rfl rfl (fun b G hb ho => args2 (zB hLo 13 rfl HS4.1 rfl (hb 13 (by rfl))) (zB hLo 14 rfl HS4.1 rfl (hb 14 (by rfl)))) (fun w hw => sig_as hV w (hTd.to hw) (hT.to hw) (hO.to hw) hz (msg_to hM hw))) ?_
      refine zA (zH 16 0 _ rfl rfl rfl rfl (fun b G hb ho => zL rfl rfl rfl HS4.1 rfl (zB hLo 12 rfl HS4.1 rfl (hb 12 (by rfl))) rfl) hLo rfl rfl rfl (by rfl) Tryd.underlying28 infoB6 rfl (fun b G hb ho => zC rfl (HS4.get 3 rfl))) ?_
      refine zA (zD 17 _ rfl rfl hLo rfl rfl (fun b G hb ho => zL rfl rfl rfl HS4.1 rfl (zB hLo 12 rfl HS4.1 rfl (hb 12 (by rfl))) rfl) (fun b G w hb ho => zV rfl (zB hLo 15 rfl HS4.1 rfl (hb 15 (by rfl))) (zB hLo 16 rfl HS4.1 rfl (hb 16 (by rfl))) (eq64_run hs64 _ _ _))) ?_
      refine zA (zD 18 _ rfl rfl hLo rfl rfl (fun _ _ _ _ => rfl) (fun b G w hb ho => exec_pick rfl (zB hLo 12 rfl HS4.1 rfl (hb 12 (by rfl))) (zB hLo 17 rfl HS4.1 rfl (hb 17 (by rfl))))) ?_
      refine zA (zD 19 _ rfl rfl hLo rfl rfl (fun _ _ _ _ => rfl) (fun b G w hb ho => zF (.inr rfl) (zB hLo 18 rfl HS4.1 rfl (hb 18 (by rfl))))) ?_
      exact zE
    clear hLo
    intro G a5 w5 hS hH
    have HS5 : Sl a5 37 [(4, .bool true)] := hS
    have HH5 : Held w6 w5 [⟨g4_3, .u8, 64, V, 28⟩] := hH
    clear hS hH HS4 HH4
    refine then_ ?_
    refine wp_ret ?_
    repeat refine then_ret ?_
    exact b_tmp rfl HS5.2.1 (HS5.get 0 rfl) ⟨rfl, HB6.trans (HH5.1.mono HB6.size)⟩
  · skip
    refine wp_seq ?_
    refine wp_seq ?_
    have hLo : LOk [(0, 9, .val (.slice am lm cm)), (1, 10, .val (.int .i64 (lm : Int))), (2, 11, .val (.bool true))] := lok rfl rfl
    refine zJ (wE := w) (sz := 37) (n := 3) [0, 1, 3] [(11, .val (.bool true))] _ [⟨g1_0, none, none, .u8, 32, z, z, 22⟩] rfl (by rfl) HH2 rfl rfl hLo rfl HS2 (slL 2 (d := 2) rfl (trivial)) ?_ ?_
    · show ∀ i ∈ [0, 1, 2], _
      refine zA (zD 0 _ rfl rfl hLo rfl rfl (fun _ _ _ _ => rfl) (fun b G w hb ho => zF (.inl rfl) (zC rfl (HS2.get 0 rfl)))) ?_
      refine zA (zD 1 _ rfl rfl hLo rfl rfl (fun _ _ _ _ => rfl) (fun b G w hb ho => exec_len rfl (zB hLo 0 rfl HS2.1 rfl (hb 0 (by rfl))))) ?_
      refine zA (zD 2 _ rfl rfl hLo rfl rfl (fun _ _ _ _ => rfl) (fun b G w hb ho => zV rfl (zB hLo 1 rfl HS2.1 rfl (hb 1 (by rfl))) (rfl) (gtr_run hr _ _ _))) ?_
      exact zE
    clear hLo
    intro G a26 w26 hS hH
    have HS26 : Sl a26 37 [(11, .bool true)] := hS
    have HH26 : Held w w26 [⟨g1_0, .u8, 32, z, 22⟩] := hH
    clear hS hH HS2 HH2
    refine then_ ?_
    refine wp_cond_true (HS26.get 0 rfl) ?_
    refine wp_seq ?_
    have hLo : LOk [(0, 4, .val (.bool true))] := lok rfl rfl
    refine zJ (wE := w) (sz := 37) (n := 1) [0] [(4, .val (.bool true))] _ [⟨g1_0, none, none, .u8, 32, z, z, 22⟩] rfl (by rfl) HH26 rfl rfl hLo rfl HS26 (slL 0 (d := 0) rfl (trivial)) ?_ ?_
    · show ∀ i ∈ [0], _
      refine zA (zD 0 _ rfl rfl hLo rfl rfl (fun _ _ _ _ => rfl) (fun b G w hb ho => zF (.inr rfl) (rfl))) ?_
      exact zE
    clear hLo
    intro G a27 w27 hS hH
    have HS27 : Sl a27 37 [(4, .bool true)] := hS
    have HH27 : Held w w27 [⟨g1_0, .u8, 32, z, 22⟩] := hH
    clear hS hH HS26 HH26
    refine then_ ?_
    refine wp_ret ?_
    repeat refine then_ret ?_
    exact b_tmp rfl HS27.2.1 (HS27.get 0 rfl) ⟨rfl, HH27.1⟩
end Go.Proofs.YtbmnkchcekacfaaDoor.P
end

section
namespace Go.Proofs.YtbmnkchcekacfaaDoorW.PrintWords
open Go.ChangeShapes Go.WideShapes
theorem sized_ints {H : Type} {enc : TypeId × Value → H} {P : Program} {W : World} {base : Nat} {spare : Nat → Bool} {held : Bool} {t e : TypeId} {k : IntKind} {a : Option Addr} {len cap : Nat} {d : DataW H} {ps : List MemPlace} {ts : List TypeId} {ds : List (DataW H)} {j : Nat}
    (hsz : (DataW.weightsEach P ts ds).all (· ≤ reachBytes) = true) (ht : ts[j]? = some t) (hd : ds[j]? = some d) (hu : P.underlying t = some (.slice e)) (he : P.underlying e = some (.int k)) (hc : P.cellsOf e = 1) {B : Nat} (hB : P.bytesOf e = B)
    (h : DataW.Trod enc P W base spare held t (.slice a len cap) d ps) : len * B ≤ 140737488351232 := by
  obtain ⟨fuel, hf⟩ := h
  rcases open_ints hu he hc hf with ⟨hcs, _⟩ | ⟨x, l, c, zs, hcs, _, hl, _, hz, hx, _, _⟩
  · simp [Value.cells] at hcs
    obtain ⟨rfl, rfl, rfl⟩ := hcs
    simp
  · simp [Value.cells] at hcs
    obtain ⟨rfl, rfl, rfl⟩ := hcs
    obtain ⟨hx, _⟩ := Prod.mk.inj hx
    subst hx
    have z := sized_slice hsz ht hd hu
    rw [hB] at z
    have hl2 : len ≤ zs.length := by
      rw [hz]
      split
      · exact hl
      · exact Nat.le_refl _
    have h1 : (lits (H := H) k (zs.take len)).length + (lits (H := H) k (zs.drop len)).length = zs.length := by
      simp [lits]
      omega
    rw [h1] at z
    exact Nat.le_trans (Nat.mul_le_mul_right _ hl2) z
end Go.Proofs.YtbmnkchcekacfaaDoorW.PrintWords
end
