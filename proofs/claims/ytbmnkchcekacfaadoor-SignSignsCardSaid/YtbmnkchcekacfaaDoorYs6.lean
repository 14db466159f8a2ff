/- Merged of the texts: Hb, He, Sh, Si, Sj, Sk, Sw, Iz, Hd, Hc, Hl, Hm, WSized (trim.py). -/
import Derived.Lib.ConvBytes
import Derived.SizedLaws
import Derived.ChangeSlices
import Derived.Test.YtbmnkchcekacfaaDoorYs5
section
namespace Go.Proofs.YtbmnkchcekacfaaDoor.P
set_option linter.unusedVariables false
set_option linter.unusedSimpArgs false
open Go.RowKit Go.ChangeShapes Go.WideShapes Go.Proofs.YtbmnkchcekacfaaDoorW.PrintWords Go.Proofs.YtbmnkchcekacfaaDoorW.PrintLast Go.Proofs.YtbmnkchcekacfaaDoorW.PrintMore
open Go.Proofs.YtbmnkchcekacfaaDoor.P.Fd
def nmb (z : Nat → Int) (n : Nat) : Nat → Int := dig 256 (val 256 (Dg.dg z n) 64 % LL)
theorem nmb_By (z : Nat → Int) (n : Nat) : Fd.By (nmb z n) := dig_By _
theorem nmb_congr {z z' : Nat → Int} {n : Nat} (h : ∀ j, j < n → z j = z' j) : nmb z n = nmb z' n := by unfold nmb; rw [Dg.dg_congr h]
def cat2 (n : Nat) (f m : Nat → Int) : Nat → Int := fun j => if j < n then f j else m (j - n)
def cat3 (f g m : Nat → Int) : Nat → Int := fun j => if j < 32 then f j else if j < 64 then g (j - 32) else m (j - 64)
theorem secA_By (z : Nat → Int) : Fd.By (secA z) := fun j hj => by
  have hD : ∀ j, 0 ≤ Dg.dg z 32 j ∧ Dg.dg z 32 j < 256 := fun j => Dg.dg_b z 32 j
  have hb : ∀ n m : Fin 256, 0 ≤ Go.bits .and .u8 (n.val : Int) 248 ∧ Go.bits .and .u8 (n.val : Int) 248 < 256 ∧ 0 ≤ Go.bits .or .u8 (Go.bits .and .u8 (n.val : Int) 127) 64 ∧ Go.bits .or .u8 (Go.bits .and .u8 (n.val : Int) 127) 64 < 256 := by
    intro n m
    revert n
    decide +kernel
  have key : ∀ x : Int, 0 ≤ x ∧ x < 256 → (0 ≤ Go.bits .and .u8 x 248 ∧ Go.bits .and .u8 x 248 < 256) ∧ 0 ≤ Go.bits .or .u8 (Go.bits .and .u8 x 127) 64 ∧ Go.bits .or .u8 (Go.bits .and .u8 x 127) 64 < 256 := by
    intro x hx
    have := hb ⟨x.toNat, by omega⟩ ⟨0, by omega⟩
    simp only [Int.toNat_of_nonneg hx.1] at this
    exact ⟨⟨this.1, this.2.1⟩, this.2.2⟩
  have hY : ∀ j, 0 ≤ upd (Dg.dg z 32) 0 (Go.bits .and .u8 (Dg.dg z 32 0) 248) j ∧ upd (Dg.dg z 32) 0 (Go.bits .and .u8 (Dg.dg z 32 0) 248) j < 256 := by
    intro j
    unfold upd
    split
    · exact (key _ (hD 0)).1
    · exact hD j
  unfold secA
  generalize upd (Dg.dg z 32) 0 (Go.bits .and .u8 (Dg.dg z 32 0) 248) = Y at hY ⊢
  unfold upd
  split
  · exact (key _ (hY 31)).2
  · exact hY j
theorem prefP_By (z : Nat → Int) : Fd.By (prefP z) := fun j _ => Dg.dg_b z 32 _
theorem halves_as {z A P : Nat → Int} (hA : secA z = A) (hP : prefP z = P) (w : World) (ht : Dg.Tab w) (hz : Fd.By z) : Calls Tryd.prog 16 #[.agg (FR .u8 32 z)] w fun e w' => e = .returned (.tuple #[.agg (FR .u8 32 A), .agg (FR .u8 32 P)]) ∧ Below w.heap.size w w' := by rw [← hA, ← hP]; exact halves_calls z w ht hz
noncomputable def pubK (z : Nat → Int) : Nat → Int := ptB (Pt.mul fld basePt (NZ (secA z)))
def sigN (z : Nat → Int) (lm : Nat) (zm : Nat → Int) : Nat → Int := nmb (cat2 32 (prefP z) zm) (32 + lm)
noncomputable def sigR (z : Nat → Int) (lm : Nat) (zm : Nat → Int) : Nat → Int := ptB (Pt.mul fld basePt (NZ (sigN z lm zm)))
noncomputable def sigK (z : Nat → Int) (lm : Nat) (zm : Nat → Int) : Nat → Int := nmb (cat3 (sigR z lm zm) (pubK z) zm) (64 + lm)
noncomputable def sigS (z : Nat → Int) (lm : Nat) (zm : Nat → Int) : Nat → Int := dig 256 ((N32 (sigK z lm zm) * N32 (secA z) + N32 (sigN z lm zm)) % LL)
noncomputable def sigV (z : Nat → Int) (lm : Nat) (zm : Nat → Int) : Nat → Int := cat2 32 (sigR z lm zm) (sigS z lm zm)
theorem sigV_eq {z zm A P K n R k S : Nat → Int} {lm : Nat} (hA : secA z = A) (hP : prefP z = P) (hK : ptB (Pt.mul fld (basePt) (NZ (A))) = K) (hn : nmb (cat2 32 P zm) (32 + lm) = n) (hR : ptB (Pt.mul fld (basePt) (NZ (n))) = R) (hk : nmb (cat3 R K zm) (64 + lm) = k) (hS : dig 256 ((N32 k * N32 A + N32 n) % LL) = S) : sigV z lm zm = cat2 32 R S := by
  subst hA hP hK hn hR hk hS
  rfl
theorem sig_row (R S : Nat → Int) : FR .u8 64 (cat2 32 R S) = FR .u8 64 (updR (updR (fun _ => 0) 0 32 R) 32 32 S) := FR_congr _ _ _ _ fun j hj => by
  unfold cat2 updR
  by_cases h : j < 32
  · rw [if_pos h, if_neg (by omega), if_pos (by omega)]; rfl
  · rw [if_neg h, if_pos (by omega)]
def _root_.Go.Proofs.YtbmnkchcekacfaaDoor.P.Dg.Msg (w : World) (am : Option Addr) (lm cm : Nat) (zm : Nat → Int) : Prop := NumsAt .u8 w am lm zm ∧ (am = none → cm = 0) ∧ lm ≤ 100000 ∧ ∀ j, j < lm → 0 ≤ zm j ∧ zm j < 256
theorem cell_slices {w : World} {g : Nat} {cs : Array Value} {t : TypeId} (h : w.heap[g]? = some (.cells cs t (0, 0))) (r : Nat) (v : Value) (hv : cs[r]? = some v) : w.cell? ((⟨g, 0, none⟩ : Addr).add r) = some v := by
  rw [add_at, Nat.zero_add, cell_of_row w g r cs t _ h, hv]
theorem rest2 {P zm n : Nat → Int} {am : Option Addr} {lm cm : Nat} (hn : nmb (cat2 32 P zm) (32 + lm) = n) (w : World) (ht : Dg.Tab w) (ho : Ord w) {g g1 : Nat} {t t1 : TypeId} (hcs : w.heap[g]? = some (.cells #[.slice (some ⟨g1, 0, none⟩) 32 32, .slice am lm cm] t (0, 0))) (h1 : Row w g1 .u8 32 P t1) (hP : Fd.By P) (hM : Dg.Msg w am lm cm zm) :
    Calls Tryd.prog 25 #[.slice (some ⟨g, 0, none⟩) 2 2] w fun e w' => e = .returned (.agg (FR .u8 32 n)) ∧ Below w.heap.size w w' := by
  obtain ⟨m1, m2, m3, m4⟩ := hM
  have h := Dg.rest_pieces ⟨g, 0, none⟩ 2 (fun r => if r = 0 then some ⟨g1, 0, none⟩ else am) (fun r => if r = 0 then 32 else lm) (fun r => if r = 0 then 32 else cm) (fun r => if r = 0 then P else zm) w ht ho (fun r hr => by
    have hr2 : r = 0 ∨ r = 1 := by omega
    rcases hr2 with rfl | rfl
    · exact ⟨cell_slices hcs 0 _ rfl, fun e => (by cases e), h1.numsAt, hP⟩
    · exact ⟨cell_slices hcs 1 _ rfl, m2, m1, m4⟩) (by omega) (by show 0 + 32 + lm ≤ 1000000; omega)
  have e : nmb (Dg.catZ (fun r => if r = 0 then 32 else lm) (fun r => if r = 0 then P else zm) 2) (Dg.catN (fun r => if r = 0 then 32 else lm) 2) = n := by
    rw [← hn, show Dg.catN (fun r => if r = 0 then 32 else lm) 2 = 32 + lm from by show 0 + 32 + lm = 32 + lm; omega]
    refine nmb_congr fun j hj => ?_
    show (if j < 0 + 32 then (if j < 0 then 0 else P (j - 0)) else zm (j - (0 + 32))) = if j < 32 then P j else zm (j - 32)
    rw [Nat.zero_add, Nat.sub_zero, if_neg (Nat.not_lt_zero j)]
  unfold nmb at e
  rw [e] at h
  exact h
theorem rest3 {f1 f2 zm n : Nat → Int} {am : Option Addr} {lm cm c1 : Nat} (hn : nmb (cat3 f1 f2 zm) (64 + lm) = n) (w : World) (ht : Dg.Tab w) (ho : Ord w) {g g1 g2 n1 : Nat} {t t1 t2 : TypeId} (hcs : w.heap[g]? = some (.cells #[.slice (some ⟨g1, 0, none⟩) 32 c1, .slice (some ⟨g2, 0, none⟩) 32 32, .slice am lm cm] t (0, 0))) (h1 : Row w g1 .u8 n1 f1 t1) (hn1 : 32 ≤ n1) (h2 : Row w g2 .u8 32 f2 t2)
    (hf1 : ∀ j, j < 32 → 0 ≤ f1 j ∧ f1 j < 256) (hf2 : Fd.By f2) (hM : Dg.Msg w am lm cm zm) :
    Calls Tryd.prog 25 #[.slice (some ⟨g, 0, none⟩) 3 3] w fun e w' => e = .returned (.agg (FR .u8 32 n)) ∧ Below w.heap.size w w' := by
  obtain ⟨m1, m2, m3, m4⟩ := hM
  have h := Dg.rest_pieces ⟨g, 0, none⟩ 3 (fun r => if r = 0 then some ⟨g1, 0, none⟩ else if r = 1 then some ⟨g2, 0, none⟩ else am) (fun r => if r = 0 then 32 else if r = 1 then 32 else lm) (fun r => if r = 0 then c1 else if r = 1 then 32 else cm) (fun r => if r = 0 then f1 else if r = 1 then f2 else zm) w ht ho (fun r hr => by
    have hr2 : r = 0 ∨ r = 1 ∨ r = 2 := by omega
    rcases hr2 with rfl | rfl | rfl
    · exact ⟨cell_slices hcs 0 _ rfl, fun e => (by cases e), .inr ⟨_, rfl, fun j hj => by rw [add_at, Nat.zero_add]; exact h1.cell j (by have : j < 32 := hj; omega)⟩, hf1⟩
    · exact ⟨cell_slices hcs 1 _ rfl, fun e => (by cases e), h2.numsAt, hf2⟩
    · exact ⟨cell_slices hcs 2 _ rfl, m2, m1, m4⟩) (by omega) (by show 0 + 32 + 32 + lm ≤ 1000000; omega)
  have e : nmb (Dg.catZ (fun r => if r = 0 then 32 else if r = 1 then 32 else lm) (fun r => if r = 0 then f1 else if r = 1 then f2 else zm) 3) (Dg.catN (fun r => if r = 0 then 32 else if r = 1 then 32 else lm) 3) = n := by
    rw [← hn, show Dg.catN (fun r => if r = 0 then 32 else if r = 1 then 32 else lm) 3 = 64 + lm from by show 0 + 32 + 32 + lm = 64 + lm; omega]
    refine nmb_congr fun j hj => ?_
    show (if j < 0 + 32 + 32 then (if j < 0 + 32 then (if j < 0 then 0 else f1 (j - 0)) else f2 (j - (0 + 32))) else zm (j - (0 + 32 + 32))) = if j < 32 then f1 j else if j < 64 then f2 (j - 32) else zm (j - 64)
    rw [Nat.zero_add, Nat.sub_zero, if_neg (Nat.not_lt_zero j)]
    by_cases h3 : j < 32
    · rw [if_pos h3, if_pos h3, if_pos (by omega)]
    · rw [if_neg h3, if_neg h3]
  unfold nmb at e
  rw [e] at h
  exact h
theorem parts3 {ev : Operand → Value} {i j l : Nat} {x y z : Operand} {u v t : Value} (h : ev x = u) (h2 : ev y = v) (h3 : ev z = t) : ((#[(i, x), (j, y), (l, z)] : Array (Nat × Operand)).map fun (i, x) => (i, ev x)) = #[(i, u), (j, v), (l, t)] := by simp [h, h2, h3]
theorem tabpu_2 : rtab .any (opsOf Tryd.f9 2) = (true, [([], []), ([], []), ([0, 1, 0], [0, 1]), ([2, 2], [2]), ([3, 3, 0, 1, 2, 3], [3])]) := by kernel_rfl
theorem bitspu_2 : zW [([], []), ([], []), ([0, 1, 0], [0, 1]), ([2, 2], [2]), ([3, 3, 0, 1, 2, 3], [3])] [0, 0, 3, 7, 15] = true := by kernel_rfl
theorem tabsg_2 : rtab .any (opsOf Tryd.f13 2) = (true, [([], []), ([], []), ([0, 1, 0], [0, 1]), ([2, 2], [2]), ([], []), ([4, 3, 3, 0, 1, 2, 3, 4], [3, 4])]) := by kernel_rfl
theorem bitssg_2 : zW [([], []), ([], []), ([0, 1, 0], [0, 1]), ([2, 2], [2]), ([], []), ([4, 3, 3, 0, 1, 2, 3, 4], [3, 4])] [0, 0, 3, 7, 0, 31] = true := by kernel_rfl
theorem tabsg_4 : rtab .any (opsOf Tryd.f13 4) = (true, [([], []), ([], []), ([0, 1, 0], [0, 1]), ([2, 2], [2]), ([], []), ([4, 3, 3, 0, 1, 2, 3, 4], [3, 4])]) := by kernel_rfl
theorem bitssg_4 : zW [([], []), ([], []), ([0, 1, 0], [0, 1]), ([2, 2], [2]), ([], []), ([4, 3, 3, 0, 1, 2, 3, 4], [3, 4])] [0, 0, 3, 7, 0, 31] = true := by kernel_rfl
theorem tabsg_5 : rtab .any (opsOf Tryd.f13 5) = (true, [([], []), ([], []), ([], []), ([0, 1, 2], [0, 1, 2]), ([3], [3]), ([], []), ([], []), ([4, 5, 6, 4], [4, 5, 6]), ([], []), ([8, 7, 7, 0, 1, 2, 3, 4, 5, 6, 7, 8], [7, 8])]) := by kernel_rfl
theorem bitssg_5 : zW [([], []), ([], []), ([], []), ([0, 1, 2], [0, 1, 2]), ([3], [3]), ([], []), ([], []), ([4, 5, 6, 4], [4, 5, 6]), ([], []), ([8, 7, 7, 0, 1, 2, 3, 4, 5, 6, 7, 8], [7, 8])] [0, 0, 0, 7, 15, 0, 0, 127, 0, 511] = true := by kernel_rfl
theorem tabsg_7 : rtab .any (opsOf Tryd.f13 7) = (true, [([], []), ([], []), ([0, 1], [0, 1])]) := by kernel_rfl
theorem bitssg_7 : zW [([], []), ([], []), ([0, 1], [0, 1])] [0, 0, 3] = true := by kernel_rfl
theorem tabsg_8 : rtab .any (opsOf Tryd.f13 8) = (true, [([], []), ([], []), ([0, 1], [0, 1])]) := by kernel_rfl
theorem bitssg_8 : zW [([], []), ([], []), ([0, 1], [0, 1])] [0, 0, 3] = true := by kernel_rfl
theorem public_calls (z : Nat → Int) (w : World) (hTd : Dg.Tab w) (hT : TabD w) (hz : Fd.By z) : Calls Tryd.prog 9 #[.agg (FR .u8 32 z)] w fun e w' => e = .returned (.agg (FR .u8 32 (pubK z))) ∧ Below w.heap.size w w' := by
  obtain ⟨A_z, hA_z⟩ : ∃ A, secA z = A := ⟨_, rfl⟩
  obtain ⟨P_z, hP_z⟩ : ∃ A, prefP z = A := ⟨_, rfl⟩
  have hAB_z : Fd.By A_z := by rw [← hA_z]; exact secA_By z
  have hPB_z : Fd.By P_z := by rw [← hP_z]; exact prefP_By z
  obtain ⟨K, hK⟩ : ∃ S : Nat → Int, ptB (Pt.mul fld (basePt) (NZ (A_z))) = S := ⟨_, rfl⟩
  have hKB : Fd.By K := by rw [← hK]; exact ptB_By _
  have eK : pubK z = K := by rw [← hK, ← hA_z]; rfl
  rw [eK]
  refine enter_ 14 Tryd.func9 rfl rfl (fun a0 hS => ?_)
  have HS0 : Sl a0 14 [(0, .agg (FR .u8 32 z))] := hS
  have HH0 : Held w w [] := Held.first w
  clear hS
  refine wp_seq ?_
  have hLo : LOk [(0, 1, .ptr 0 0), (1, 2, .ptr 1 0)] := lok rfl rfl
  refine zJ (wE := w) (sz := 14) (n := 2) [0, 1] [(1, .ptr 0 0), (2, .ptr 1 0)] _ [⟨0, some 0, none, .u8, 32, z, z, 22⟩, ⟨0, some 1, none, .u8, 32, fun _ => 0, fun _ => 0, 22⟩] rfl (by rfl) HH0 rfl rfl hLo rfl HS0 (slL 0 (d := 0) rfl (slL 1 (d := 1) rfl (trivial))) ?_ ?_
  · show ∀ i ∈ [0, 1], _
    refine zA (zK 0 0 .u8 32 22 none _ _ rfl rfl (fun _ _ _ _ => rfl) rfl hLo rfl rfl rfl rfl (by rfl) (fun b G w hb ho => exec_box rfl (zD rfl (HS0.get 0 rfl)) (by kernel_rfl))) ?_
    refine zA (zK 1 1 .u8 32 22 none _ _ rfl rfl (fun _ _ _ _ => rfl) rfl hLo rfl rfl rfl rfl (by rfl) (fun b G w _ _ => by kernel_rfl)) ?_
    exact zE
  clear hLo
  intro G a1 w1 hS hH
  have HS1 : Sl a1 14 [(1, .pointer (some ⟨(G 0), 0, none⟩)), (2, .pointer (some ⟨(G 1), 0, none⟩))] := hS
  have HH1 : Held w w1 [⟨(G 0), .u8, 32, z, 22⟩, ⟨(G 1), .u8, 32, fun _ => 0, 22⟩] := hH
  clear hS hH HS0 HH0
  generalize G 0 = g1_0 at HS1 HH1
  generalize G 1 = g1_1 at HS1 HH1
  refine then_ ?_
  refine wp_seq ?_
  have hLo : LOk [(0, 6, .val (.agg (FR .u8 32 (z)))), (1, 7, .val (.tuple #[.agg (FR .u8 32 (A_z)), .agg (FR .u8 32 (P_z))])), (2, 5, .val (.tuple #[.agg (FR .u8 32 (A_z)), .agg (FR .u8 32 (P_z))])), (3, 8, .val (.agg (FR .u8 32 (A_z)))), (4, 9, .val (.agg (FR .u8 32 (P_z)))), (5, 3, .ptr 5 0), (6, 4, .ptr 6 0)] := lok rfl rfl
  refine zJ (wE := w) (sz := 14) (n := 9) [0, 1, 3, 7, 15, 31, 63, 127, 255] [(2, .val (.pointer (some ⟨g1_1, 0, none⟩))), (3, .ptr 5 0)] _ [⟨g1_0, none, none, .u8, 32, z, z, 22⟩, ⟨g1_1, none, none, .u8, 32, fun _ => 0, fun _ => 0, 22⟩, ⟨0, some 5, some 7, .u8, 32, fun _ => 0, A_z, 22⟩, ⟨0, some 6, some 8, .u8, 32, fun _ => 0, P_z, 22⟩] rfl (by rfl) HH1 rfl rfl hLo rfl HS1 (slS 1 rfl rfl (slL 5 (d := 5) rfl (trivial))) ?_ ?_
  · show ∀ i ∈ [0, 1, 2, 3, 4, 5, 6, 7, 8], _
    refine zA (zH 0 0 _ rfl rfl rfl rfl (fun _ _ _ _ => rfl) hLo rfl rfl rfl (by rfl) Tryd.underlying22 infoB3 rfl (fun b G hb ho => zD rfl (HS1.get 0 rfl))) ?_
    refine zA (zG 1 _ #[.agg (FR .u8 32 (z))] rfl rfl rfl (fun _ _ _ _ => rfl) hLo rfl rfl Tryd.func16 rfl rfl (fun b G hb ho => args1 (zB hLo 0 rfl HS1.1 rfl (hb 0 (by rfl)))) (fun w hw => halves_as hA_z hP_z w (hTd.to hw) hz)) ?_
    refine zA (zC 2 _ rfl rfl hLo rfl rfl (fun _ _ _ _ => rfl) (fun b G w hb ho => zF (.inl rfl) (zB hLo 1 rfl HS1.1 rfl (hb 1 (by rfl))))) ?_
    refine zA (zC 3 _ rfl rfl hLo rfl rfl (fun _ _ _ _ => rfl) (fun b G w hb ho => exec_extract rfl (zB hLo 2 rfl HS1.1 rfl (hb 2 (by rfl))) (by rfl))) ?_
    refine zA (zC 4 _ rfl rfl hLo rfl rfl (fun _ _ _ _ => rfl) (fun b G w hb ho => exec_extract rfl (zB hLo 2 rfl HS1.1 rfl (hb 2 (by rfl))) (by rfl))) ?_
    refine zA (zK 5 2 .u8 32 22 (some 7) _ _ rfl rfl (fun _ _ _ _ => rfl) rfl hLo rfl rfl rfl rfl (by rfl) (fun b G w _ _ => by kernel_rfl)) ?_
    refine zA (zK 6 3 .u8 32 22 (some 8) _ _ rfl rfl (fun _ _ _ _ => rfl) rfl hLo rfl rfl rfl rfl (by rfl) (fun b G w _ _ => by kernel_rfl)) ?_
    refine zA (zI 2 _ rfl rfl rfl rfl rfl (fun _ _ _ _ => rfl) rfl rfl rfl (by rfl) infoB3 (fun b G hb ho => zB hLo 5 rfl HS1.1 rfl (hb 5 (by rfl))) (fun b G hb ho => zB hLo 3 rfl HS1.1 rfl (hb 3 (by rfl)))) ?_
    refine zA (zI 3 _ rfl rfl rfl rfl rfl (fun _ _ _ _ => rfl) rfl rfl rfl (by rfl) infoB3 (fun b G hb ho => zB hLo 6 rfl HS1.1 rfl (hb 6 (by rfl))) (fun b G hb ho => zB hLo 4 rfl HS1.1 rfl (hb 4 (by rfl)))) ?_
    exact zE
  clear hLo
  intro G a2 w2 hS hH
  have HS2 : Sl a2 14 [(2, .pointer (some ⟨g1_1, 0, none⟩)), (3, .pointer (some ⟨(G 5), 0, none⟩))] := hS
  have HH2 : Held w w2 [⟨g1_0, .u8, 32, z, 22⟩, ⟨g1_1, .u8, 32, fun _ => 0, 22⟩, ⟨(G 5), .u8, 32, A_z, 22⟩, ⟨(G 6), .u8, 32, P_z, 22⟩] := hH
  clear hS hH HS1 HH1
  generalize G 5 = g2_5 at HS2 HH2
  generalize G 6 = g2_6 at HS2 HH2
  refine then_ ?_
  obtain ⟨B1, hB1, rB1⟩ : ∃ S, baseP = S ∧ PRep S (basePt) := ⟨_, rfl, base_prep⟩
  obtain ⟨M2, hM2, rM2⟩ : ∃ S, mulP B1 (A_z) = S ∧ PRep S (Pt.mul fld (basePt) (NZ (A_z))) := ⟨_, rfl, rB1.mul hAB_z⟩
  refine wp_seq ?_
  have hLo : LOk [(0, 10, .val (.agg (FR .u64 20 (B1)))), (1, 11, .val (.agg (FR .u8 32 (A_z)))), (2, 12, .val (.agg (FR .u64 20 (M2)))), (3, 13, .val (.agg (FR .u8 32 (K))))] := lok rfl rfl
  refine yJ (wE := w) (sz := 14) (n := 5) (B := [0, 0, 3, 7, 15]) [0, 1, 2, 3, 4] [(2, .val (.pointer (some ⟨g1_1, 0, none⟩)))] _ [⟨g1_0, none, none, .u8, 32, z, z, 22⟩, ⟨g1_1, none, some 4, .u8, 32, fun _ => 0, K, 22⟩, ⟨g2_5, none, none, .u8, 32, A_z, A_z, 22⟩, ⟨g2_6, none, none, .u8, 32, P_z, P_z, 22⟩] (by rfl) rfl tabpu_2 bitspu_2 (by kernel_rfl) (by kernel_rfl) HH2 rfl rfl hLo rfl HS2 (slS 0 rfl rfl (trivial)) ?_ ?_
  · show ∀ i ∈ [0, 1, 2, 3, 4], _
    refine zA (zG 0 _ #[] rfl rfl rfl (fun _ _ _ _ => rfl) hLo rfl rfl Tryd.func17 rfl rfl (fun b G hb ho => args0 ) (fun w hw => base_as hB1 w (hT.to hw))) ?_
    refine zA (zH 1 2 _ rfl rfl rfl rfl (fun _ _ _ _ => rfl) hLo rfl rfl rfl (by rfl) Tryd.underlying22 infoB3 rfl (fun b G hb ho => zD rfl (HS2.get 1 rfl))) ?_
    refine zA (zG 2 _ #[.agg (FR .u64 20 (B1)), .agg (FR .u8 32 (A_z))] rfl rfl rfl (fun _ _ _ _ => rfl) hLo rfl rfl Tryd.func18 rfl rfl (fun b G hb ho => zV (zB hLo 0 rfl HS2.1 rfl (hb 0 (by rfl))) (zB hLo 1 rfl HS2.1 rfl (hb 1 (by rfl)))) (fun w hw => mul_as hM2 w (hT.to hw) rB1.1 hAB_z)) ?_
    refine zA (zG 3 _ #[.agg (FR .u64 20 (M2))] rfl rfl rfl (fun _ _ _ _ => rfl) hLo rfl rfl Tryd.func19 rfl rfl (fun b G hb ho => args1 (zB hLo 2 rfl HS2.1 rfl (hb 2 (by rfl)))) (fun w hw => bytes_as (rM2.bytes.trans hK) w rM2.1)) ?_
    refine zA (zI 1 _ rfl rfl rfl rfl rfl (fun _ _ _ _ => rfl) rfl rfl rfl (by rfl) infoB3 (fun b G hb ho => zD rfl (HS2.get 0 rfl)) (fun b G hb ho => zB hLo 3 rfl HS2.1 rfl (hb 3 (by rfl)))) ?_
    exact zE
  clear hLo
  intro G a3 w3 hS hH
  have HS3 : Sl a3 14 [(2, .pointer (some ⟨g1_1, 0, none⟩))] := hS
  have HH3 : Held w w3 [⟨g1_0, .u8, 32, z, 22⟩, ⟨g1_1, .u8, 32, K, 22⟩, ⟨g2_5, .u8, 32, A_z, 22⟩, ⟨g2_6, .u8, 32, P_z, 22⟩] := hH
  clear hS hH HS2 HH2
  refine then_ ?_
  refine wp_ret ?_
  repeat refine yD ?_
  exact b_row rfl HS3.2.1 (HS3.get 0 rfl) (HH3.row 1 rfl) Tryd.underlying22 rfl infoB3 ⟨rfl, HH3.1⟩
theorem sign_calls (z : Nat → Int) (am : Option Addr) (lm cm : Nat) (zm : Nat → Int) (w : World) (hTd : Dg.Tab w) (hT : TabD w) (hO : Ord w) (hz : Fd.By z) (hM : ∀ w', Below w.heap.size w w' → Dg.Msg w' am lm cm zm) : Calls Tryd.prog 13 #[.agg (FR .u8 32 z), .slice am lm cm] w fun e w' => e = .returned (.agg (FR .u8 64 (sigV z lm zm))) ∧ Below w.heap.size w w' := by
  obtain ⟨A_z, hA_z⟩ : ∃ A, secA z = A := ⟨_, rfl⟩
  obtain ⟨P_z, hP_z⟩ : ∃ A, prefP z = A := ⟨_, rfl⟩
  have hAB_z : Fd.By A_z := by rw [← hA_z]; exact secA_By z
  have hPB_z : Fd.By P_z := by rw [← hP_z]; exact prefP_By z
  obtain ⟨K, hK⟩ : ∃ S : Nat → Int, ptB (Pt.mul fld (basePt) (NZ (A_z))) = S := ⟨_, rfl⟩
  have hKB : Fd.By K := by rw [← hK]; exact ptB_By _
  obtain ⟨n, hn⟩ : ∃ S : Nat → Int, nmb (cat2 32 P_z zm) (32 + lm) = S := ⟨_, rfl⟩
  have hnB : Fd.By n := by rw [← hn]; exact nmb_By _ _
  obtain ⟨R, hR⟩ : ∃ S : Nat → Int, ptB (Pt.mul fld (basePt) (NZ (n))) = S := ⟨_, rfl⟩
  have hRB : Fd.By R := by rw [← hR]; exact ptB_By _
  obtain ⟨k, hk⟩ : ∃ S : Nat → Int, nmb (cat3 R K zm) (64 + lm) = S := ⟨_, rfl⟩
  have hkB : Fd.By k := by rw [← hk]; exact nmb_By _ _
  obtain ⟨S, hS⟩ : ∃ S : Nat → Int, dig 256 ((N32 k * N32 A_z + N32 n) % LL) = S := ⟨_, rfl⟩
  have hSB : Fd.By S := by rw [← hS]; exact dig_By _
  have eV : FR .u8 64 (sigV z lm zm) = FR .u8 64 (updR (updR (fun _ => 0) 0 32 R) 32 32 S) := by rw [sigV_eq hA_z hP_z hK hn hR hk hS]; exact sig_row R S
  rw [eV]
  refine enter_ 44 Tryd.func13 rfl rfl (fun a0 hS => ?_)
  have HS0 : Sl a0 44 [(0, .agg (FR .u8 32 z)), (1, .slice am lm cm)] := hS
  have HH0 : Held w w [] := Held.first w
  clear hS
  refine wp_seq ?_
  have hLo : LOk [(0, 2, .ptr 0 0), (1, 4, .ptr 1 0)] := lok rfl rfl
  refine zJ (wE := w) (sz := 44) (n := 2) [0, 1] [(1, .val (.slice am lm cm)), (2, .ptr 0 0), (4, .ptr 1 0)] _ [⟨0, some 0, none, .u8, 32, z, z, 22⟩, ⟨0, some 1, none, .u8, 64, fun _ => 0, fun _ => 0, 28⟩] rfl (by rfl) HH0 rfl rfl hLo rfl HS0 (slS 1 rfl rfl (slL 0 (d := 0) rfl (slL 1 (d := 1) rfl (trivial)))) ?_ ?_
  · show ∀ i ∈ [0, 1], _
    refine zA (zK 0 0 .u8 32 22 none _ _ rfl rfl (fun _ _ _ _ => rfl) rfl hLo rfl rfl rfl rfl (by rfl) (fun b G w hb ho => exec_box rfl (zD rfl (HS0.get 0 rfl)) (by kernel_rfl))) ?_
    refine zA (zK 1 1 .u8 64 28 none _ _ rfl rfl (fun _ _ _ _ => rfl) rfl hLo rfl rfl rfl rfl (by rfl) (fun b G w _ _ => by kernel_rfl)) ?_
    exact zE
  clear hLo
  intro G a1 w1 hS hH
  have HS1 : Sl a1 44 [(1, .slice am lm cm), (2, .pointer (some ⟨(G 0), 0, none⟩)), (4, .pointer (some ⟨(G 1), 0, none⟩))] := hS
  have HH1 : Held w w1 [⟨(G 0), .u8, 32, z, 22⟩, ⟨(G 1), .u8, 64, fun _ => 0, 28⟩] := hH
  clear hS hH HS0 HH0
  generalize G 0 = g1_0 at HS1 HH1
  generalize G 1 = g1_1 at HS1 HH1
  refine then_ ?_
  refine wp_seq ?_
  have hLo : LOk [(0, 13, .val (.agg (FR .u8 32 (z)))), (1, 14, .val (.tuple #[.agg (FR .u8 32 (A_z)), .agg (FR .u8 32 (P_z))])), (2, 12, .val (.tuple #[.agg (FR .u8 32 (A_z)), .agg (FR .u8 32 (P_z))])), (3, 15, .val (.agg (FR .u8 32 (A_z)))), (4, 16, .val (.agg (FR .u8 32 (P_z)))), (5, 5, .ptr 5 0), (6, 6, .ptr 6 0)] := lok rfl rfl
  refine zJ (wE := w) (sz := 44) (n := 9) [0, 1, 3, 7, 15, 31, 63, 127, 255] [(1, .val (.slice am lm cm)), (4, .val (.pointer (some ⟨g1_1, 0, none⟩))), (5, .ptr 5 0), (6, .ptr 6 0)] _ [⟨g1_0, none, none, .u8, 32, z, z, 22⟩, ⟨g1_1, none, none, .u8, 64, fun _ => 0, fun _ => 0, 28⟩, ⟨0, some 5, some 7, .u8, 32, fun _ => 0, A_z, 22⟩, ⟨0, some 6, some 8, .u8, 32, fun _ => 0, P_z, 22⟩] rfl (by rfl) HH1 rfl rfl hLo rfl HS1 (slS 0 rfl rfl (slS 2 rfl rfl (slL 5 (d := 5) rfl (slL 6 (d := 6) rfl (trivial))))) ?_ ?_
  · show ∀ i ∈ [0, 1, 2, 3, 4, 5, 6, 7, 8], _
    refine zA (zH 0 0 _ rfl rfl rfl rfl (fun _ _ _ _ => rfl) hLo rfl rfl rfl (by rfl) Tryd.underlying22 infoB3 rfl (fun b G hb ho => zD rfl (HS1.get 1 rfl))) ?_
    refine zA (zG 1 _ #[.agg (FR .u8 32 (z))] rfl rfl rfl (fun _ _ _ _ => rfl) hLo rfl rfl Tryd.func16 rfl rfl (fun b G hb ho => args1 (zB hLo 0 rfl HS1.1 rfl (hb 0 (by rfl)))) (fun w hw => halves_as hA_z hP_z w (hTd.to hw) hz)) ?_
    refine zA (zC 2 _ rfl rfl hLo rfl rfl (fun _ _ _ _ => rfl) (fun b G w hb ho => zF (.inl rfl) (zB hLo 1 rfl HS1.1 rfl (hb 1 (by rfl))))) ?_
    refine zA (zC 3 _ rfl rfl hLo rfl rfl (fun _ _ _ _ => rfl) (fun b G w hb ho => exec_extract rfl (zB hLo 2 rfl HS1.1 rfl (hb 2 (by rfl))) (by rfl))) ?_
    refine zA (zC 4 _ rfl rfl hLo rfl rfl (fun _ _ _ _ => rfl) (fun b G w hb ho => exec_extract rfl (zB hLo 2 rfl HS1.1 rfl (hb 2 (by rfl))) (by rfl))) ?_
    refine zA (zK 5 2 .u8 32 22 (some 7) _ _ rfl rfl (fun _ _ _ _ => rfl) rfl hLo rfl rfl rfl rfl (by rfl) (fun b G w _ _ => by kernel_rfl)) ?_
    refine zA (zK 6 3 .u8 32 22 (some 8) _ _ rfl rfl (fun _ _ _ _ => rfl) rfl hLo rfl rfl rfl rfl (by rfl) (fun b G w _ _ => by kernel_rfl)) ?_
    refine zA (zI 2 _ rfl rfl rfl rfl rfl (fun _ _ _ _ => rfl) rfl rfl rfl (by rfl) infoB3 (fun b G hb ho => zB hLo 5 rfl HS1.1 rfl (hb 5 (by rfl))) (fun b G hb ho => zB hLo 3 rfl HS1.1 rfl (hb 3 (by rfl)))) ?_
    refine zA (zI 3 _ rfl rfl rfl rfl rfl (fun _ _ _ _ => rfl) rfl rfl rfl (by rfl) infoB3 (fun b G hb ho => zB hLo 6 rfl HS1.1 rfl (hb 6 (by rfl))) (fun b G hb ho => zB hLo 4 rfl HS1.1 rfl (hb 4 (by rfl)))) ?_
    exact zE
  clear hLo
  intro G a2 w2 hS hH
  have HS2 : Sl a2 44 [(1, .slice am lm cm), (4, .pointer (some ⟨g1_1, 0, none⟩)), (5, .pointer (some ⟨(G 5), 0, none⟩)), (6, .pointer (some ⟨(G 6), 0, none⟩))] := hS
  have HH2 : Held w w2 [⟨g1_0, .u8, 32, z, 22⟩, ⟨g1_1, .u8, 64, fun _ => 0, 28⟩, ⟨(G 5), .u8, 32, A_z, 22⟩, ⟨(G 6), .u8, 32, P_z, 22⟩] := hH
  clear hS hH HS1 HH1
  generalize G 5 = g2_5 at HS2 HH2
  generalize G 6 = g2_6 at HS2 HH2
  refine then_ ?_
  obtain ⟨B3, hB3, rB3⟩ : ∃ S, baseP = S ∧ PRep S (basePt) := ⟨_, rfl, base_prep⟩
  obtain ⟨M4, hM4, rM4⟩ : ∃ S, mulP B3 (A_z) = S ∧ PRep S (Pt.mul fld (basePt) (NZ (A_z))) := ⟨_, rfl, rB3.mul hAB_z⟩
  refine wp_seq ?_
  have hLo : LOk [(0, 17, .val (.agg (FR .u64 20 (B3)))), (1, 18, .val (.agg (FR .u8 32 (A_z)))), (2, 19, .val (.agg (FR .u64 20 (M4)))), (3, 20, .val (.agg (FR .u8 32 (K)))), (4, 7, .ptr 4 0)] := lok rfl rfl
  refine yJ (wE := w) (sz := 44) (n := 6) (B := [0, 0, 3, 7, 0, 31]) [0, 1, 2, 3, 4, 5] [(1, .val (.slice am lm cm)), (4, .val (.pointer (some ⟨g1_1, 0, none⟩))), (5, .val (.pointer (some ⟨g2_5, 0, none⟩))), (6, .val (.pointer (some ⟨g2_6, 0, none⟩))), (7, .ptr 4 0)] _ [⟨g1_0, none, none, .u8, 32, z, z, 22⟩, ⟨g1_1, none, none, .u8, 64, fun _ => 0, fun _ => 0, 28⟩, ⟨g2_5, none, none, .u8, 32, A_z, A_z, 22⟩, ⟨g2_6, none, none, .u8, 32, P_z, P_z, 22⟩, ⟨0, some 4, some 5, .u8, 32, fun _ => 0, K, 22⟩] (by rfl) rfl tabsg_2 bitssg_2 (by kernel_rfl) (by kernel_rfl) HH2 rfl rfl hLo rfl HS2 (slS 0 rfl rfl (slS 1 rfl rfl (slS 2 rfl rfl (slS 3 rfl rfl (slL 4 (d := 4) rfl (trivial)))))) ?_ ?_
  · show ∀ i ∈ [0, 1, 2, 3, 4, 5], _
    refine zA (zG 0 _ #[] rfl rfl rfl (fun _ _ _ _ => rfl) hLo rfl rfl Tryd.func17 rfl rfl (fun b G hb ho => args0 ) (fun w hw => base_as hB3 w (hT.to hw))) ?_
    refine zA (zH 1 2 _ rfl rfl rfl rfl (fun _ _ _ _ => rfl) hLo rfl rfl rfl (by rfl) Tryd.underlying22 infoB3 rfl (fun b G hb ho => zD rfl (HS2.get 2 rfl))) ?_
    refine zA (zG 2 _ #[.agg (FR .u64 20 (B3)), .agg (FR .u8 32 (A_z))] rfl rfl rfl (fun _ _ _ _ => rfl) hLo rfl rfl Tryd.func18 rfl rfl (fun b G hb ho => zV (zB hLo 0 rfl HS2.1 rfl (hb 0 (by rfl))) (zB hLo 1 rfl HS2.1 rfl (hb 1 (by rfl)))) (fun w hw => mul_as hM4 w (hT.to hw) rB3.1 hAB_z)) ?_
    refine zA (zG 3 _ #[.agg (FR .u64 20 (M4))] rfl rfl rfl (fun _ _ _ _ => rfl) hLo rfl rfl Tryd.func19 rfl rfl (fun b G hb ho => args1 (zB hLo 2 rfl HS2.1 rfl (hb 2 (by rfl)))) (fun w hw => bytes_as (rM4.bytes.trans hK) w rM4.1)) ?_
    refine zA (zK 4 4 .u8 32 22 (some 5) _ _ rfl rfl (fun _ _ _ _ => rfl) rfl hLo rfl rfl rfl rfl (by rfl) (fun b G w _ _ => by kernel_rfl)) ?_
    refine zA (zI 4 _ rfl rfl rfl rfl rfl (fun _ _ _ _ => rfl) rfl rfl rfl (by rfl) infoB3 (fun b G hb ho => zB hLo 4 rfl HS2.1 rfl (hb 4 (by rfl))) (fun b G hb ho => zB hLo 3 rfl HS2.1 rfl (hb 3 (by rfl)))) ?_
    exact zE
  clear hLo
  intro G a3 w3 hS hH
  have HS3 : Sl a3 44 [(1, .slice am lm cm), (4, .pointer (some ⟨g1_1, 0, none⟩)), (5, .pointer (some ⟨g2_5, 0, none⟩)), (6, .pointer (some ⟨g2_6, 0, none⟩)), (7, .pointer (some ⟨(G 4), 0, none⟩))] := hS
  have HH3 : Held w w3 [⟨g1_0, .u8, 32, z, 22⟩, ⟨g1_1, .u8, 64, fun _ => 0, 28⟩, ⟨g2_5, .u8, 32, A_z, 22⟩, ⟨g2_6, .u8, 32, P_z, 22⟩, ⟨(G 4), .u8, 32, K, 22⟩] := hH
  clear hS hH HS2 HH2
  generalize G 4 = g3_4 at HS3 HH3
  refine then_ ?_
  refine wp_seq ?_
  have hLo : LOk [(0, 21, .val (.slice (some ⟨g2_6, 0, none⟩) 32 32)), (1, 22, .val (.slice am lm cm)), (2, 23, .sl 2 2 2), (3, 24, .val (.agg (FR .u8 32 (n)))), (4, 8, .ptr 4 0)] := lok rfl rfl
  refine plainx_ (wE := w) (sz := 44) (n := 6) [0, 1, 3, 7, 15, 31] [(1, .val (.slice am lm cm)), (4, .val (.pointer (some ⟨g1_1, 0, none⟩))), (5, .val (.pointer (some ⟨g2_5, 0, none⟩))), (7, .val (.pointer (some ⟨g3_4, 0, none⟩))), (8, .ptr 4 0)] _ [⟨g1_0, none, none, .u8, 32, z, z, 22⟩, ⟨g1_1, none, none, .u8, 64, fun _ => 0, fun _ => 0, 28⟩, ⟨g2_5, none, none, .u8, 32, A_z, A_z, 22⟩, ⟨g2_6, none, none, .u8, 32, P_z, P_z, 22⟩, ⟨g3_4, none, none, .u8, 32, K, K, 22⟩, ⟨0, some 4, some 5, .u8, 32, fun _ => 0, n, 22⟩] [⟨2, #[.slice (some ⟨g2_6, 0, none⟩) 32 32, .slice am lm cm], 25⟩] rfl (by rfl) HH3 rfl rfl hLo rfl HS3 (slS 0 rfl rfl (slS 1 rfl rfl (slS 2 rfl rfl (slS 4 rfl rfl (slL 4 (d := 4) rfl (trivial)))))) ?_ ?_
  · show ∀ i ∈ [0, 1, 2, 3, 4, 5], _
    refine zA (sx_run 0 _ rfl rfl hLo rfl rfl rfl (fun _ _ _ _ => rfl) (fun b G w hb ho => exec_slice rfl (zD rfl (HS3.get 3 rfl)) rfl rfl rfl (slc_32_0_32 _ _))) ?_
    refine zA (sx_run 1 _ rfl rfl hLo rfl rfl rfl (fun _ _ _ _ => rfl) (fun b G w hb ho => zF (.inl rfl) (zD rfl (HS3.get 0 rfl)))) ?_
    refine zA (sx_mk 2 0 _ rfl rfl (fun _ _ _ _ => rfl) rfl rfl hLo rfl rfl rfl rfl (fun b G w hb ho => exec_buildSlice rfl (parts2 (zB hLo 0 rfl HS3.1 rfl (hb 0 (by rfl))) (zB hLo 1 rfl HS3.1 rfl (hb 1 (by rfl)))) (by kernel_rfl))) ?_
    refine zA (sx_callC 3 _ _ (fun G => #[.slice (some ⟨G 2, 0, none⟩) 2 2]) List.mem_cons_self rfl rfl rfl (fun _ _ _ _ => rfl) hLo rfl rfl rfl Tryd.func25 rfl rfl (show onB _ _ _ (some 2) = true from rfl) (fun b G hb ho => args1 (zB hLo 2 rfl HS3.1 rfl (hb 2 (by rfl)))) (fun G w hw hR hcs => rest2 hn w (hTd.to hw) (hO.to hw) hcs ((show Old _ w from hR).at 3 rfl) hPB_z (hM w hw))) ?_
    refine zA (sx_alloc 4 5 .u8 32 22 (some 5) _ _ rfl rfl (fun _ _ _ _ => rfl) rfl hLo rfl rfl rfl rfl rfl (by rfl) (fun b G w _ _ => by kernel_rfl)) ?_
    refine zA (sx_store 5 _ rfl rfl rfl rfl rfl (fun _ _ _ _ => rfl) rfl rfl rfl rfl (by rfl) infoB3 (fun b G hb ho => zB hLo 4 rfl HS3.1 rfl (hb 4 (by rfl))) (fun b G hb ho => zB hLo 3 rfl HS3.1 rfl (hb 3 (by rfl)))) ?_
    exact zE
  clear hLo
  intro G a4 w4 hS hH
  have HS4 : Sl a4 44 [(1, .slice am lm cm), (4, .pointer (some ⟨g1_1, 0, none⟩)), (5, .pointer (some ⟨g2_5, 0, none⟩)), (7, .pointer (some ⟨g3_4, 0, none⟩)), (8, .pointer (some ⟨(G 4), 0, none⟩))] := hS
  have HH4 : Held w w4 [⟨g1_0, .u8, 32, z, 22⟩, ⟨g1_1, .u8, 64, fun _ => 0, 28⟩, ⟨g2_5, .u8, 32, A_z, 22⟩, ⟨g2_6, .u8, 32, P_z, 22⟩, ⟨g3_4, .u8, 32, K, 22⟩, ⟨(G 4), .u8, 32, n, 22⟩] := hH
  clear hS hH HS3 HH3
  generalize G 4 = g4_4 at HS4 HH4
  refine then_ ?_
  obtain ⟨M5, hM5, rM5⟩ : ∃ S, mulP B3 (n) = S ∧ PRep S (Pt.mul fld (basePt) (NZ (n))) := ⟨_, rfl, rB3.mul hnB⟩
  refine wp_seq ?_
  have hLo : LOk [(0, 25, .val (.agg (FR .u64 20 (B3)))), (1, 26, .val (.agg (FR .u8 32 (n)))), (2, 27, .val (.agg (FR .u64 20 (M5)))), (3, 28, .val (.agg (FR .u8 32 (R)))), (4, 9, .ptr 4 0)] := lok rfl rfl
  refine yJ (wE := w) (sz := 44) (n := 6) (B := [0, 0, 3, 7, 0, 31]) [0, 1, 2, 3, 4, 5] [(1, .val (.slice am lm cm)), (4, .val (.pointer (some ⟨g1_1, 0, none⟩))), (5, .val (.pointer (some ⟨g2_5, 0, none⟩))), (7, .val (.pointer (some ⟨g3_4, 0, none⟩))), (8, .val (.pointer (some ⟨g4_4, 0, none⟩))), (9, .ptr 4 0)] _ [⟨g1_0, none, none, .u8, 32, z, z, 22⟩, ⟨g1_1, none, none, .u8, 64, fun _ => 0, fun _ => 0, 28⟩, ⟨g2_5, none, none, .u8, 32, A_z, A_z, 22⟩, ⟨g2_6, none, none, .u8, 32, P_z, P_z, 22⟩, ⟨g3_4, none, none, .u8, 32, K, K, 22⟩, ⟨g4_4, none, none, .u8, 32, n, n, 22⟩, ⟨0, some 4, some 5, .u8, 32, fun _ => 0, R, 22⟩] (by rfl) rfl tabsg_4 bitssg_4 (by kernel_rfl) (by kernel_rfl) HH4 rfl rfl hLo rfl HS4 (slS 0 rfl rfl (slS 1 rfl rfl (slS 2 rfl rfl (slS 3 rfl rfl (slS 4 rfl rfl (slL 4 (d := 4) rfl (trivial))))))) ?_ ?_
  · show ∀ i ∈ [0, 1, 2, 3, 4, 5], _
    refine zA (zG 0 _ #[] rfl rfl rfl (fun _ _ _ _ => rfl) hLo rfl rfl Tryd.func17 rfl rfl (fun b G hb ho => args0 ) (fun w hw => base_as hB3 w (hT.to hw))) ?_
    refine zA (zH 1 5 _ rfl rfl rfl rfl (fun _ _ _ _ => rfl) hLo rfl rfl rfl (by rfl) Tryd.underlying22 infoB3 rfl (fun b G hb ho => zD rfl (HS4.get 4 rfl))) ?_
    refine zA (zG 2 _ #[.agg (FR .u64 20 (B3)), .agg (FR .u8 32 (n))] rfl rfl rfl (fun _ _ _ _ => rfl) hLo rfl rfl Tryd.func18 rfl rfl (fun b G hb ho => zV (zB hLo 0 rfl HS4.1 rfl (hb 0 (by rfl))) (zB hLo 1 rfl HS4.1 rfl (hb 1 (by rfl)))) (fun w hw => mul_as hM5 w (hT.to hw) rB3.1 hnB)) ?_
    refine zA (zG 3 _ #[.agg (FR .u64 20 (M5))] rfl rfl rfl (fun _ _ _ _ => rfl) hLo rfl rfl Tryd.func19 rfl rfl (fun b G hb ho => args1 (zB hLo 2 rfl HS4.1 rfl (hb 2 (by rfl)))) (fun w hw => bytes_as (rM5.bytes.trans hR) w rM5.1)) ?_
    refine zA (zK 4 6 .u8 32 22 (some 5) _ _ rfl rfl (fun _ _ _ _ => rfl) rfl hLo rfl rfl rfl rfl (by rfl) (fun b G w _ _ => by kernel_rfl)) ?_
    refine zA (zI 6 _ rfl rfl rfl rfl rfl (fun _ _ _ _ => rfl) rfl rfl rfl (by rfl) infoB3 (fun b G hb ho => zB hLo 4 rfl HS4.1 rfl (hb 4 (by rfl))) (fun b G hb ho => zB hLo 3 rfl HS4.1 rfl (hb 3 (by rfl)))) ?_
    exact zE
  clear hLo
  intro G a5 w5 hS hH
  have HS5 : Sl a5 44 [(1, .slice am lm cm), (4, .pointer (some ⟨g1_1, 0, none⟩)), (5, .pointer (some ⟨g2_5, 0, none⟩)), (7, .pointer (some ⟨g3_4, 0, none⟩)), (8, .pointer (some ⟨g4_4, 0, none⟩)), (9, .pointer (some ⟨(G 4), 0, none⟩))] := hS
  have HH5 : Held w w5 [⟨g1_0, .u8, 32, z, 22⟩, ⟨g1_1, .u8, 64, fun _ => 0, 28⟩, ⟨g2_5, .u8, 32, A_z, 22⟩, ⟨g2_6, .u8, 32, P_z, 22⟩, ⟨g3_4, .u8, 32, K, 22⟩, ⟨g4_4, .u8, 32, n, 22⟩, ⟨(G 4), .u8, 32, R, 22⟩] := hH
  clear hS hH HS4 HH4
  generalize G 4 = g5_4 at HS5 HH5
  refine then_ ?_
  refine wp_seq ?_
  have hLo : LOk [(0, 29, .val (.slice (some ⟨g5_4, 0, none⟩) 32 32)), (1, 30, .val (.slice (some ⟨g3_4, 0, none⟩) 32 32)), (2, 31, .val (.slice am lm cm)), (3, 32, .sl 3 3 3), (4, 33, .val (.agg (FR .u8 32 (k)))), (5, 34, .val (.agg (FR .u8 32 (A_z)))), (6, 35, .val (.agg (FR .u8 32 (n)))), (7, 36, .val (.agg (FR .u8 32 (S)))), (8, 10, .ptr 8 0)] := lok rfl rfl
  refine regionx_ (wE := w) (sz := 44) (n := 10) (B := [0, 0, 0, 7, 15, 0, 0, 127, 0, 511]) [0, 1, 2, 3, 4, 5, 6, 7, 8, 9] [(4, .val (.pointer (some ⟨g1_1, 0, none⟩))), (9, .val (.pointer (some ⟨g5_4, 0, none⟩))), (10, .ptr 8 0)] _ [⟨g1_0, none, none, .u8, 32, z, z, 22⟩, ⟨g1_1, none, none, .u8, 64, fun _ => 0, fun _ => 0, 28⟩, ⟨g2_5, none, none, .u8, 32, A_z, A_z, 22⟩, ⟨g2_6, none, none, .u8, 32, P_z, P_z, 22⟩, ⟨g3_4, none, none, .u8, 32, K, K, 22⟩, ⟨g4_4, none, none, .u8, 32, n, n, 22⟩, ⟨g5_4, none, none, .u8, 32, R, R, 22⟩, ⟨0, some 8, some 9, .u8, 32, fun _ => 0, S, 22⟩] [⟨3, #[.slice (some ⟨g5_4, 0, none⟩) 32 32, .slice (some ⟨g3_4, 0, none⟩) 32 32, .slice am lm cm], 25⟩] (by rfl) rfl tabsg_5 bitssg_5 (by kernel_rfl) (by kernel_rfl) HH5 rfl rfl hLo rfl HS5 (slS 1 rfl rfl (slS 5 rfl rfl (slL 8 (d := 8) rfl (trivial)))) ?_ ?_
  · show ∀ i ∈ [0, 1, 2, 3, 4, 5, 6, 7, 8, 9], _
    refine zA (sx_run 0 _ rfl rfl hLo rfl rfl rfl (fun _ _ _ _ => rfl) (fun b G w hb ho => exec_slice rfl (zD rfl (HS5.get 5 rfl)) rfl rfl rfl (slc_32_0_32 _ _))) ?_
    refine zA (sx_run 1 _ rfl rfl hLo rfl rfl rfl (fun _ _ _ _ => rfl) (fun b G w hb ho => exec_slice rfl (zD rfl (HS5.get 3 rfl)) rfl rfl rfl (slc_32_0_32 _ _))) ?_
    refine zA (sx_run 2 _ rfl rfl hLo rfl rfl rfl (fun _ _ _ _ => rfl) (fun b G w hb ho => zF (.inl rfl) (zD rfl (HS5.get 0 rfl)))) ?_
    refine zA (sx_mk 3 0 _ rfl rfl (fun _ _ _ _ => rfl) rfl rfl hLo rfl rfl rfl rfl (fun b G w hb ho => exec_buildSlice rfl (parts3 (zB hLo 0 rfl HS5.1 rfl (hb 0 (by rfl))) (zB hLo 1 rfl HS5.1 rfl (hb 1 (by rfl))) (zB hLo 2 rfl HS5.1 rfl (hb 2 (by rfl)))) (by kernel_rfl))) ?_
    refine zA (sx_callC 4 _ _ (fun G => #[.slice (some ⟨G 3, 0, none⟩) 3 3]) List.mem_cons_self rfl rfl rfl (fun _ _ _ _ => rfl) hLo rfl rfl rfl Tryd.func25 rfl rfl (show onB _ _ _ (some 3) = true from rfl) (fun b G hb ho => args1 (zB hLo 3 rfl HS5.1 rfl (hb 3 (by rfl)))) (fun G w hw hR hcs => rest3 hk w (hTd.to hw) (hO.to hw) hcs ((show Old _ w from hR).at 6 rfl) (by decide) ((show Old _ w from hR).at 4 rfl) hRB hKB (hM w hw))) ?_
    refine zA (sx_row0 5 2 _ rfl rfl rfl rfl (fun _ _ _ _ => rfl) hLo rfl rfl rfl rfl (by rfl) Tryd.underlying22 infoB3 rfl (fun b G hb ho => zD rfl (HS5.get 2 rfl))) ?_
    refine zA (sx_row0 6 5 _ rfl rfl rfl rfl (fun _ _ _ _ => rfl) hLo rfl rfl rfl rfl (by rfl) Tryd.underlying22 infoB3 rfl (fun b G hb ho => zD rfl (HS5.get 4 rfl))) ?_
    refine zA (sx_call 7 _ #[.agg (FR .u8 32 (k)), .agg (FR .u8 32 (A_z)), .agg (FR .u8 32 (n))] rfl rfl rfl (fun _ _ _ _ => rfl) hLo rfl rfl rfl Tryd.func33 rfl rfl (fun b G hb ho => args3 (zB hLo 4 rfl HS5.1 rfl (hb 4 (by rfl))) (zB hLo 5 rfl HS5.1 rfl (hb 5 (by rfl))) (zB hLo 6 rfl HS5.1 rfl (hb 6 (by rfl)))) (fun w hw => muladd_as hS w (hO.to hw) hkB hAB_z hnB)) ?_
    refine zA (sx_alloc 8 7 .u8 32 22 (some 9) _ _ rfl rfl (fun _ _ _ _ => rfl) rfl hLo rfl rfl rfl rfl rfl (by rfl) (fun b G w _ _ => by kernel_rfl)) ?_
    refine zA (sx_store 7 _ rfl rfl rfl rfl rfl (fun _ _ _ _ => rfl) rfl rfl rfl rfl (by rfl) infoB3 (fun b G hb ho => zB hLo 8 rfl HS5.1 rfl (hb 8 (by rfl))) (fun b G hb ho => zB hLo 7 rfl HS5.1 rfl (hb 7 (by rfl)))) ?_
    exact zE
  clear hLo
  intro G a6 w6 hS hH
  have HS6 : Sl a6 44 [(4, .pointer (some ⟨g1_1, 0, none⟩)), (9, .pointer (some ⟨g5_4, 0, none⟩)), (10, .pointer (some ⟨(G 8), 0, none⟩))] := hS
  have HH6 : Held w w6 [⟨g1_0, .u8, 32, z, 22⟩, ⟨g1_1, .u8, 64, fun _ => 0, 28⟩, ⟨g2_5, .u8, 32, A_z, 22⟩, ⟨g2_6, .u8, 32, P_z, 22⟩, ⟨g3_4, .u8, 32, K, 22⟩, ⟨g4_4, .u8, 32, n, 22⟩, ⟨g5_4, .u8, 32, R, 22⟩, ⟨(G 8), .u8, 32, S, 22⟩] := hH
  clear hS hH HS5 HH5
  generalize G 8 = g6_8 at HS6 HH6
  refine then_ ?_
  refine wp_seq ?_
  have hLo : LOk [(0, 11, .ptr 0 0)] := lok rfl rfl
  refine zJ (wE := w) (sz := 44) (n := 1) [0] [(4, .val (.pointer (some ⟨g1_1, 0, none⟩))), (9, .val (.pointer (some ⟨g5_4, 0, none⟩))), (10, .val (.pointer (some ⟨g6_8, 0, none⟩))), (11, .ptr 0 0)] _ [⟨g1_0, none, none, .u8, 32, z, z, 22⟩, ⟨g1_1, none, none, .u8, 64, fun _ => 0, fun _ => 0, 28⟩, ⟨g2_5, none, none, .u8, 32, A_z, A_z, 22⟩, ⟨g2_6, none, none, .u8, 32, P_z, P_z, 22⟩, ⟨g3_4, none, none, .u8, 32, K, K, 22⟩, ⟨g4_4, none, none, .u8, 32, n, n, 22⟩, ⟨g5_4, none, none, .u8, 32, R, R, 22⟩, ⟨g6_8, none, none, .u8, 32, S, S, 22⟩, ⟨0, some 0, none, .u8, 64, fun _ => 0, fun _ => 0, 28⟩] rfl (by rfl) HH6 rfl rfl hLo rfl HS6 (slS 0 rfl rfl (slS 1 rfl rfl (slS 2 rfl rfl (slL 0 (d := 0) rfl (trivial))))) ?_ ?_
  · show ∀ i ∈ [0], _
    refine zA (zK 0 8 .u8 64 28 none _ _ rfl rfl (fun _ _ _ _ => rfl) rfl hLo rfl rfl rfl rfl (by rfl) (fun b G w _ _ => by kernel_rfl)) ?_
    exact zE
  clear hLo
  intro G a7 w7 hS hH
  have HS7 : Sl a7 44 [(4, .pointer (some ⟨g1_1, 0, none⟩)), (9, .pointer (some ⟨g5_4, 0, none⟩)), (10, .pointer (some ⟨g6_8, 0, none⟩)), (11, .pointer (some ⟨(G 0), 0, none⟩))] := hS
  have HH7 : Held w w7 [⟨g1_0, .u8, 32, z, 22⟩, ⟨g1_1, .u8, 64, fun _ => 0, 28⟩, ⟨g2_5, .u8, 32, A_z, 22⟩, ⟨g2_6, .u8, 32, P_z, 22⟩, ⟨g3_4, .u8, 32, K, 22⟩, ⟨g4_4, .u8, 32, n, 22⟩, ⟨g5_4, .u8, 32, R, 22⟩, ⟨g6_8, .u8, 32, S, 22⟩, ⟨(G 0), .u8, 64, fun _ => 0, 28⟩] := hH
  clear hS hH HS6 HH6
  generalize G 0 = g7_0 at HS7 HH7
  refine then_ ?_
  refine wp_seq ?_
  have hLo : LOk [(0, 37, .val (.slice (some ⟨g7_0, 0, none⟩) 32 64)), (1, 38, .val (.slice (some ⟨g5_4, 0, none⟩) 32 32)), (2, 39, .val (.int .i64 32))] := lok rfl rfl
  refine yJ (wE := w) (sz := 44) (n := 3) (B := [0, 0, 3]) [0, 1, 2] [(4, .val (.pointer (some ⟨g1_1, 0, none⟩))), (10, .val (.pointer (some ⟨g6_8, 0, none⟩))), (11, .val (.pointer (some ⟨g7_0, 0, none⟩)))] _ [⟨g1_0, none, none, .u8, 32, z, z, 22⟩, ⟨g1_1, none, none, .u8, 64, fun _ => 0, fun _ => 0, 28⟩, ⟨g2_5, none, none, .u8, 32, A_z, A_z, 22⟩, ⟨g2_6, none, none, .u8, 32, P_z, P_z, 22⟩, ⟨g3_4, none, none, .u8, 32, K, K, 22⟩, ⟨g4_4, none, none, .u8, 32, n, n, 22⟩, ⟨g5_4, none, none, .u8, 32, R, R, 22⟩, ⟨g6_8, none, none, .u8, 32, S, S, 22⟩, ⟨g7_0, none, some 2, .u8, 64, fun _ => 0, updR (fun _ => 0) 0 32 (R), 28⟩] (by rfl) rfl tabsg_7 bitssg_7 (by kernel_rfl) (by kernel_rfl) HH7 rfl rfl hLo rfl HS7 (slS 0 rfl rfl (slS 2 rfl rfl (slS 3 rfl rfl (trivial)))) ?_ ?_
  · show ∀ i ∈ [0, 1, 2], _
    refine zA (zC 0 _ rfl rfl hLo rfl rfl (fun _ _ _ _ => rfl) (fun b G w hb ho => exec_slice rfl (zD rfl (HS7.get 3 rfl)) rfl rfl rfl (slc_64_0_32 _ _))) ?_
    refine zA (zC 1 _ rfl rfl hLo rfl rfl (fun _ _ _ _ => rfl) (fun b G w hb ho => exec_slice rfl (zD rfl (HS7.get 1 rfl)) rfl rfl rfl (slc_32_0_32 _ _))) ?_
    refine zA (st_cpy 2 8 _ _ rfl rfl rfl rfl (fun _ _ _ _ => rfl) hLo rfl rfl rfl (by rfl) (fun b G w hb ho hr hB hO => copy_row hr (Nat.le_of_ble_eq_true rfl) Tryd.underlying25 Fd.info5s rfl (zB hLo 0 rfl HS7.1 rfl (hb 0 (by rfl))) (zB hLo 1 rfl HS7.1 rfl (hb 1 (by rfl))) (fun j hj => by rw [add_at, Nat.zero_add]; exact (hO.at 6 rfl).cell j hj) (by decide))) ?_
    exact zE
  clear hLo
  intro G a8 w8 hS hH
  have HS8 : Sl a8 44 [(4, .pointer (some ⟨g1_1, 0, none⟩)), (10, .pointer (some ⟨g6_8, 0, none⟩)), (11, .pointer (some ⟨g7_0, 0, none⟩))] := hS
  have HH8 : Held w w8 [⟨g1_0, .u8, 32, z, 22⟩, ⟨g1_1, .u8, 64, fun _ => 0, 28⟩, ⟨g2_5, .u8, 32, A_z, 22⟩, ⟨g2_6, .u8, 32, P_z, 22⟩, ⟨g3_4, .u8, 32, K, 22⟩, ⟨g4_4, .u8, 32, n, 22⟩, ⟨g5_4, .u8, 32, R, 22⟩, ⟨g6_8, .u8, 32, S, 22⟩, ⟨g7_0, .u8, 64, updR (fun _ => 0) 0 32 (R), 28⟩] := hH
  clear hS hH HS7 HH7
  refine then_ ?_
  refine wp_seq ?_
  have hLo : LOk [(0, 40, .val (.slice (some ⟨g7_0, 32, none⟩) 32 32)), (1, 41, .val (.slice (some ⟨g6_8, 0, none⟩) 32 32)), (2, 42, .val (.int .i64 32))] := lok rfl rfl
  refine yJ (wE := w) (sz := 44) (n := 3) (B := [0, 0, 3]) [0, 1, 2] [(4, .val (.pointer (some ⟨g1_1, 0, none⟩))), (11, .val (.pointer (some ⟨g7_0, 0, none⟩)))] _ [⟨g1_0, none, none, .u8, 32, z, z, 22⟩, ⟨g1_1, none, none, .u8, 64, fun _ => 0, fun _ => 0, 28⟩, ⟨g2_5, none, none, .u8, 32, A_z, A_z, 22⟩, ⟨g2_6, none, none, .u8, 32, P_z, P_z, 22⟩, ⟨g3_4, none, none, .u8, 32, K, K, 22⟩, ⟨g4_4, none, none, .u8, 32, n, n, 22⟩, ⟨g5_4, none, none, .u8, 32, R, R, 22⟩, ⟨g6_8, none, none, .u8, 32, S, S, 22⟩, ⟨g7_0, none, some 2, .u8, 64, updR (fun _ => 0) 0 32 (R), updR (updR (fun _ => 0) 0 32 (R)) 32 32 (S), 28⟩] (by rfl) rfl tabsg_8 bitssg_8 (by kernel_rfl) (by kernel_rfl) HH8 rfl rfl hLo rfl HS8 (slS 0 rfl rfl (slS 2 rfl rfl (trivial))) ?_ ?_
  · show ∀ i ∈ [0, 1, 2], _
    refine zA (zC 0 _ rfl rfl hLo rfl rfl (fun _ _ _ _ => rfl) (fun b G w hb ho => exec_slice rfl (zD rfl (HS8.get 2 rfl)) rfl rfl rfl (slc_64_32_64 _ _))) ?_
    refine zA (zC 1 _ rfl rfl hLo rfl rfl (fun _ _ _ _ => rfl) (fun b G w hb ho => exec_slice rfl (zD rfl (HS8.get 1 rfl)) rfl rfl rfl (slc_32_0_32 _ _))) ?_
    refine zA (st_cpy 2 8 _ _ rfl rfl rfl rfl (fun _ _ _ _ => rfl) hLo rfl rfl rfl (by rfl) (fun b G w hb ho hr hB hO => copy_row hr (Nat.le_of_ble_eq_true rfl) Tryd.underlying25 Fd.info5s rfl (zB hLo 0 rfl HS8.1 rfl (hb 0 (by rfl))) (zB hLo 1 rfl HS8.1 rfl (hb 1 (by rfl))) (fun j hj => by rw [add_at, Nat.zero_add]; exact (hO.at 7 rfl).cell j hj) (by decide))) ?_
    exact zE
  clear hLo
  intro G a9 w9 hS hH
  have HS9 : Sl a9 44 [(4, .pointer (some ⟨g1_1, 0, none⟩)), (11, .pointer (some ⟨g7_0, 0, none⟩))] := hS
  have HH9 : Held w w9 [⟨g1_0, .u8, 32, z, 22⟩, ⟨g1_1, .u8, 64, fun _ => 0, 28⟩, ⟨g2_5, .u8, 32, A_z, 22⟩, ⟨g2_6, .u8, 32, P_z, 22⟩, ⟨g3_4, .u8, 32, K, 22⟩, ⟨g4_4, .u8, 32, n, 22⟩, ⟨g5_4, .u8, 32, R, 22⟩, ⟨g6_8, .u8, 32, S, 22⟩, ⟨g7_0, .u8, 64, updR (updR (fun _ => 0) 0 32 (R)) 32 32 (S), 28⟩] := hH
  clear hS hH HS8 HH8
  refine then_ ?_
  refine wp_seq ?_
  have hLo : LOk [(0, 43, .val (.agg (FR .u8 64 (updR (updR (fun _ => 0) 0 32 (R)) 32 32 (S)))))] := lok rfl rfl
  refine zJ (wE := w) (sz := 44) (n := 2) [0, 1] [(4, .val (.pointer (some ⟨g1_1, 0, none⟩)))] _ [⟨g1_0, none, none, .u8, 32, z, z, 22⟩, ⟨g1_1, none, some 1, .u8, 64, fun _ => 0, updR (updR (fun _ => 0) 0 32 (R)) 32 32 (S), 28⟩, ⟨g2_5, none, none, .u8, 32, A_z, A_z, 22⟩, ⟨g2_6, none, none, .u8, 32, P_z, P_z, 22⟩, ⟨g3_4, none, none, .u8, 32, K, K, 22⟩, ⟨g4_4, none, none, .u8, 32, n, n, 22⟩, ⟨g5_4, none, none, .u8, 32, R, R, 22⟩, ⟨g6_8, none, none, .u8, 32, S, S, 22⟩, ⟨g7_0, none, none, .u8, 64, updR (updR (fun _ => 0) 0 32 (R)) 32 32 (S), updR (updR (fun _ => 0) 0 32 (R)) 32 32 (S), 28⟩] rfl (by rfl) HH9 rfl rfl hLo rfl HS9 (slS 0 rfl rfl (trivial)) ?_ ?_
  · show ∀ i ∈ [0, 1], _
    refine zA (zH 0 8 _ rfl rfl rfl rfl (fun _ _ _ _ => rfl) hLo rfl rfl rfl (by rfl) Tryd.underlying28 infoB6 rfl (fun b G hb ho => zD rfl (HS9.get 1 rfl))) ?_
    refine zA (zI 1 _ rfl rfl rfl rfl rfl (fun _ _ _ _ => rfl) rfl rfl rfl (by rfl) infoB6 (fun b G hb ho => zD rfl (HS9.get 0 rfl)) (fun b G hb ho => zB hLo 0 rfl HS9.1 rfl (hb 0 (by rfl)))) ?_
    exact zE
  clear hLo
  intro G a10 w10 hS hH
  have HS10 : Sl a10 44 [(4, .pointer (some ⟨g1_1, 0, none⟩))] := hS
  have HH10 : Held w w10 [⟨g1_0, .u8, 32, z, 22⟩, ⟨g1_1, .u8, 64, updR (updR (fun _ => 0) 0 32 (R)) 32 32 (S), 28⟩, ⟨g2_5, .u8, 32, A_z, 22⟩, ⟨g2_6, .u8, 32, P_z, 22⟩, ⟨g3_4, .u8, 32, K, 22⟩, ⟨g4_4, .u8, 32, n, 22⟩, ⟨g5_4, .u8, 32, R, 22⟩, ⟨g6_8, .u8, 32, S, 22⟩, ⟨g7_0, .u8, 64, updR (updR (fun _ => 0) 0 32 (R)) 32 32 (S), 28⟩] := hH
  clear hS hH HS9 HH9
  refine then_ ?_
  refine wp_ret ?_
  repeat refine yD ?_
  exact b_row rfl HS10.2.1 (HS10.get 0 rfl) (HH10.row 1 rfl) Tryd.underlying28 rfl infoB6 ⟨rfl, HH10.1⟩
end Go.Proofs.YtbmnkchcekacfaaDoor.P
end

section
namespace Go.Proofs.YtbmnkchcekacfaaDoor.P
set_option linter.unusedVariables false
set_option linter.unusedSimpArgs false
open Classical in
theorem Pt.zero_neg : (Pt.zero dF).neg = Pt.zero dF := Pt.ext (by decide : -(0 : Fin Fd.PN) = 0) rfl
def sdL : List Int := [157, 97, 177, 157, 239, 253, 90, 96, 186, 132, 74, 244, 146, 236, 44, 196, 68, 73, 197, 105, 123, 50, 105, 25, 112, 59, 172, 3, 28, 174, 127, 96]
def sdF (j : Nat) : Int := sdL.getD j 0
def sdN : Nat := 36144925721603087658594284515452164870581325872720374094707712194495455132720
def kxN : Nat := 38815646466658113194383306759739515082307681141926459231621296960732224964046
def kyN : Nat := 11903303657706407974989296177215005343713679411332034699907763981919547054807
theorem sd_num : NZ (secA sdF) = sdN := by decide +kernel
theorem key_num : (ngo sdN bxN byN 1 (bxN * byN % Fd.PN) 255 0 1 1 0).1 % Fd.PN = kxN * (ngo sdN bxN byN 1 (bxN * byN % Fd.PN) 255 0 1 1 0).2.2.1 % Fd.PN ∧ (ngo sdN bxN byN 1 (bxN * byN % Fd.PN) 255 0 1 1 0).2.1 % Fd.PN = kyN * (ngo sdN bxN byN 1 (bxN * byN % Fd.PN) 255 0 1 1 0).2.2.1 % Fd.PN := by decide +kernel
theorem key_pt : (basePt.mul fld sdN).1 = (toF (kxN : Int), toF (kyN : Int)) := by
  have h := ngo_rep (n := sdN) base_repN 255 0 1 1 0 0 zero_repN
  rw [Nat.zero_mul, Nat.zero_add, show sdN % 2 ^ 255 = sdN by decide] at h
  obtain ⟨hX, hY⟩ := key_num
  obtain ⟨X, hXe⟩ : ∃ X, (ngo sdN bxN byN 1 (bxN * byN % Fd.PN) 255 0 1 1 0).1 = X := ⟨_, rfl⟩
  obtain ⟨Y, hYe⟩ : ∃ Y, (ngo sdN bxN byN 1 (bxN * byN % Fd.PN) 255 0 1 1 0).2.1 = Y := ⟨_, rfl⟩
  obtain ⟨Z, hZe⟩ : ∃ Z, (ngo sdN bxN byN 1 (bxN * byN % Fd.PN) 255 0 1 1 0).2.2.1 = Z := ⟨_, rfl⟩
  obtain ⟨T, hTe⟩ : ∃ T, (ngo sdN bxN byN 1 (bxN * byN % Fd.PN) 255 0 1 1 0).2.2.2 = T := ⟨_, rfl⟩
  rw [hXe, hYe, hZe, hTe] at h
  rw [hXe, hZe] at hX
  rw [hYe, hZe] at hY
  obtain ⟨z, x, y, t⟩ := h
  rw [← toF_nmod X, hX, toF_nmul] at x
  rw [← toF_nmod Y, hY, toF_nmul] at y
  exact Prod.ext (fld.cancel z x).symm (fld.cancel z y).symm
theorem key_bytes : ∀ j, j < 4 → pubK sdF j = [215, 90, 152, 1].getD j 0 := by
  have e : pubK sdF = dig 256 (((toF (kyN : Int)).val : Nat) : Int) := by
    unfold pubK
    rw [sd_num]
    unfold ptB
    rw [key_pt]
    exact if_neg (by decide +kernel)
  rw [e]
  have : ∀ j : Fin 4, dig 256 (((toF (kyN : Int)).val : Nat) : Int) j.val = [215, 90, 152, 1].getD j.val 0 := by decide +kernel
  exact fun j hj => this ⟨j, hj⟩
end Go.Proofs.YtbmnkchcekacfaaDoor.P
end

section
namespace Go.Proofs.YtbmnkchcekacfaaDoor.P
set_option linter.unusedVariables false
set_option linter.unusedSimpArgs false
open Go.RowKit Go.Proofs.YtbmnkchcekacfaaDoorW.PrintWords Go.Proofs.YtbmnkchcekacfaaDoorW.PrintLast Go.Proofs.YtbmnkchcekacfaaDoorW.PrintMore
attribute [local go_sem] setCell_drewN
theorem info33 : (Tryd.prog.info? 121).map (·.size) = some 33 := by kernel_rfl
def lList : List Int := [237, 211, 245, 92, 26, 99, 18, 88, 214, 156, 247, 162, 222, 249, 222, 20, 0, 0, 0, 0, 0, 0, 0, 0, 0, 0, 0, 0, 0, 0, 0, 16, 0]
def lD (j : Nat) : Int := lList.getD j 0
theorem lD_b (j : Nat) : 0 ≤ lD j ∧ lD j < 256 := by
  by_cases h : j < 33
  · have : ∀ j, j < 33 → 0 ≤ lD j ∧ lD j < 256 := by decide +kernel
    exact this j h
  · have e : lD j = 0 := by unfold lD; rw [List.getD_eq_getElem?_getD, List.getElem?_eq_none (by show 33 ≤ j; omega)]; rfl
    omega
theorem lD_val : val 256 lD 33 = LL := by decide +kernel
theorem lD_row : (#[.int .i64 237, .int .i64 211, .int .i64 245, .int .i64 92, .int .i64 26, .int .i64 99, .int .i64 18, .int .i64 88, .int .i64 214, .int .i64 156, .int .i64 247, .int .i64 162, .int .i64 222, .int .i64 249, .int .i64 222, .int .i64 20, .int .i64 0, .int .i64 0, .int .i64 0, .int .i64 0, .int .i64 0, .int .i64 0, .int .i64 0, .int .i64 0, .int .i64 0, .int .i64 0, .int .i64 0, .int .i64 0, .int .i64 0, .int .i64 0, .int .i64 0, .int .i64 16, .int .i64 0] : Array Value) = FR .i64 33 lD := by kernel_rfl
theorem L_calls (w : World) : Calls Tryd.prog 82 #[] w fun e w' => e = .returned (.agg (FR .i64 33 lD)) ∧ Below w.heap.size w w' := by
  have HN := Aside0.mk (Row.new w .i64 33 (fun _ => 0) 121)
  have HB := Aside0.mk ((Below.refl w.heap.size w).alloc (Nat.le_refl _) (.cells (FR .i64 33 fun _ => 0) 121))
  go_enter Tryd.func82, Tryd.ntmps82
  go_wp2_with (refine zP lD HN.out info33 rfl rfl rfl rfl (congrArg Value.agg lD_row) ?_; intro w3 hs hr; have HS := Aside0.mk hs; have HR := Aside0.mk hr; clear hs hr)
  refine bodyPost_ret (zX rfl HR.out rfl Tryd.underlying121 rfl info33) rfl ?_
  exact ⟨rfl, HS.out.bel _ _ (Nat.le_refl _) HB.out⟩
def BelRel (f : Nat → Int) (w : World) (v4 : Value) (gp : Nat) (wr : World) : Prop :=
  ∃ (i : Nat), i ≤ 33 ∧ v4 = .int .i64 ((i : Int) - 1) ∧ lexN f lD i = lexN f lD 33 ∧ Below w.heap.size w wr ∧ Row wr w.heap.size .i64 33 f 121 ∧ Row wr gp .i64 33 lD 121
set_option maxRecDepth 100000 in
theorem below_calls (f : Nat → Int) (w : World) :
    Calls Tryd.prog 83 #[.agg (FR .i64 33 f)] w fun e w' => e = .returned (.bool (lexN f lD 33)) ∧ Below w.heap.size w w' := by
  go_enter Tryd.func83, Tryd.ntmps83
  go_wp2_with fail
  refine (L_calls _).mono ?_
  rintro e w1 ⟨rfl, hb⟩
  have hr := Row.below (Row.new w .i64 33 f 121) hb (by simp)
  have HR := Aside0.mk hr
  have hb2 := (Below.refl w.heap.size w).alloc (Nat.le_refl _) (.cells (FR .i64 33 f) 121)
  have HB := Aside0.mk (hb2.trans (hb.mono (by simp)))
  have hlt := hr.lt
  clear hb hb2 hr
  have HN := Aside0.mk (Row.new w1 .i64 33 (fun _ => 0) 121)
  go_wp2_with (refine step_store lD HN.out info33 rfl rfl rfl rfl rfl ?_)
  have HB2 := Aside0.mk (yF (show w.heap.size ≤ w1.heap.size by omega) (FR .i64 33 lD).toList 0 _ (HB.out.alloc (by omega) (.cells (FR .i64 33 fun _ => 0) 121)))
  have HR2 := Aside0.mk ((HR.out.alloc (.cells (FR .i64 33 fun _ => 0) 121)).cells_other (FR .i64 33 lD).toList (show w.heap.size ≠ w1.heap.size by omega))
  have HP := Aside0.mk (HN.out.all (f' := lD))
  go_loopw [4, 2] (fun v4 v2 wr => v2 = .bool false ∧ BelRel f w v4 w1.heap.size wr) (fun v _ _ => ((intOf v) + 1).toNat)
  case atStart => exact ⟨rfl, 33, by omega, rfl, rfl, HB2.out, HR2.out, HP.out⟩
  case round =>
    obtain ⟨rfl, i, hi, rfl, he, hb, hr, hp⟩ := hrel
    have HB3 := Aside0.mk hb
    have HE := Aside0.mk he
    have HR3 := Aside0.mk hr
    have HP3 := Aside0.mk hp
    clear HN HB2 HR2 HP HR HB
    rcases Nat.lt_or_ge 0 i with h15 | h15
    · obtain ⟨j, rfl⟩ : ∃ j, i = j + 1 := ⟨i - 1, by omega⟩
      have e1 : ((j + 1 : Nat) : Int) - 1 = (j : Int) := by omega
      rw [e1]
      have hge : ((j : Int) ≥ 0) = True := eq_true (by omega)
      have hlt : ((j : Int) < 33) = True := eq_true (by omega)
      have k0 := hr.cell j (by omega)
      have k1 := hp.cell j (by omega)
      clear hb hr hp he
      by_cases hq : f j = lD j
      · have HQ := Aside0.mk hq
        have hd : (f j != lD j) = false := by simp [hq]
        have hd2 : (f j = lD j) = True := eq_true hq
        clear hq
        go_wp2_with fail
        go_region
        all_goals go_wp2_with fail
        refine ⟨⟨rfl, j, by omega, rfl, ?_, HB3.out.drew, HR3.out, HP3.out⟩, by simp only [intOf]; omega⟩
        rw [← HE.out]; show _ = if f j = lD j then lexN f lD j else _
        rw [if_pos HQ.out]
      · have HQ := Aside0.mk hq
        have hd : (f j != lD j) = true := by simp [hq]
        have hd2 : (f j = lD j) = False := eq_false hq
        clear hq
        go_wp2_with fail
        go_region
        all_goals go_wp2_with fail
        go_region
        all_goals go_wp2_with fail
        go_ret
        refine ⟨?_, HB3.out.drew.drew⟩
        rw [← HE.out]; show _ = Ending.returned (Value.bool (if f j = lD j then lexN f lD j else _))
        rw [if_neg HQ.out]; rfl
    · obtain rfl : i = 0 := by omega
      clear hb hr hp he
      go_wp2_with fail
      go_ret
      refine ⟨?_, HB3.out⟩
      rw [← HE.out]; rfl
def sN (n : Nat) (z : Nat → Int) : ByteArray := strOfNums ((List.range n).map z)
theorem OwnB.str {w : World} {base n : Nat} {v : Value} {z : Nat → Int} (h : OwnB w base v n z) : (convert 25 9 v).run Tryd.prog w = .ok (.string (sN n z)) w := by
  refine own_string Tryd.underlying25 Tryd.underlying5 Tryd.underlying9 (base := base) (e' := 5) (n := n) ?_
  have e : nums .u8 ((List.range n).map z) = (List.range n).map fun j => Value.int .u8 (z j) := by simp [nums]
  rw [e]; exact h
theorem OwnB.nil (w : World) (base : Nat) (z : Nat → Int) : OwnB w base (.slice none 0 0) 0 z := World.ownsRow_nil w base _ 1
theorem OwnB.congr {w : World} {base n : Nat} {v : Value} {z z' : Nat → Int} (h : OwnB w base v n z) (e : ∀ j, j < n → z j = z' j) : OwnB w base v n z' := by
  have e2 : ((List.range n).map fun j => Value.int .u8 (z j)) = (List.range n).map fun j => Value.int .u8 (z' j) := by
    apply List.map_congr_left; intro j hj; rw [e j (List.mem_range.1 hj)]
  unfold OwnB at *; rw [← e2]; exact h
def shI (f : Nat → Int) (c : Int) (j : Nat) : Int := if j = 0 then c else f (j - 1)
theorem shI_val (R c : Int) (hR : 0 ≤ R ∧ R < LL) : val 256 (shI (dig 256 R) c) 33 = 256 * R + c := by
  rw [val_succ_low]
  have e : (fun j => shI (dig 256 R) c (j + 1)) = dig 256 R := by
    funext j; unfold shI; rw [if_neg (by omega), Nat.add_sub_cancel]
  rw [e, val_dig 256 (by omega), Int.emod_eq_of_lt hR.1 (Int.lt_trans hR.2 (by decide +kernel))]
  show c + 256 * R = _
  omega
def D33 (h : Nat → Int) : Prop := ∀ j, j < 33 → 0 ≤ h j ∧ h j < 256
theorem shI_D (R c : Int) (hc : 0 ≤ c ∧ c < 256) : D33 (shI (dig 256 R) c) := fun j _ => by
  unfold shI; split
  · exact hc
  · exact dig_b 256 (by omega) R _
def sbD (h : Nat → Int) (j : Nat) : Int := (h j - lD j + cy 256 (fun j => h j - lD j) j) % 256
theorem sbD_b (h : Nat → Int) (j : Nat) : 0 ≤ sbD h j ∧ sbD h j < 256 := by unfold sbD; omega
theorem sbD_val (h : Nat → Int) (hd : D33 h) (hl : LL ≤ val 256 h 33) : val 256 (sbD h) 33 = val 256 h 33 - LL := by
  have h1 := (cy_div 256 (by omega) (fun j => h j - lD j) 33).2
  have h2 : val 256 (fun j => h j - lD j) 33 = val 256 h 33 - LL := by rw [val_sub 256 h lD 33, lD_val]
  rw [h2] at h1
  have h3 := val_b 256 (by omega) h 33 hd
  rw [Int.emod_eq_of_lt (by omega) (by unfold LL at *; omega)] at h1
  exact h1
theorem cyS_b (h : Nat → Int) (hd : D33 h) : ∀ i, i ≤ 33 → -1 ≤ cy 256 (fun j => h j - lD j) i ∧ cy 256 (fun j => h j - lD j) i ≤ 0
  | 0, _ => by simp [cy]
  | i + 1, hi => by
    have ih := cyS_b h hd i (by omega)
    have h1 := hd i (by omega)
    have h2 := lD_b i
    have e : cy 256 (fun j => h j - lD j) (i + 1) = (h i - lD i + cy 256 (fun j => h j - lD j) i) / 256 := rfl
    rw [e]; omega
def rS (s : ByteArray) (m : Nat) : Int := val 256 (fun j => sB s (m + j)) (s.size - m) % LL
theorem rS_b (s : ByteArray) (m : Nat) : 0 ≤ rS s m ∧ rS s m < LL := by unfold rS LL; omega
theorem rS_step (s : ByteArray) (m : Nat) (h : m < s.size) : rS s m = (256 * rS s (m + 1) + sB s m) % LL := by
  unfold rS
  rw [show s.size - m = (s.size - (m + 1)) + 1 by omega, val_succ_low]
  have e : (fun j => sB s (m + (j + 1))) = fun j => sB s (m + 1 + j) := by funext j; rw [show m + (j + 1) = m + 1 + j by omega]
  rw [e, Nat.add_zero]
  generalize val 256 (fun j => sB s (m + 1 + j)) (s.size - (m + 1)) = v
  show (sB s m + 256 * v) % LL = (256 * (v % LL) + sB s m) % LL
  symm
  rw [Int.add_comm, Int.add_emod, Int.mul_emod, Int.emod_emod_of_dvd _ (Int.dvd_refl LL), ← Int.mul_emod, ← Int.add_emod]
theorem rS_end (s : ByteArray) : rS s s.size = 0 := by unfold rS; rw [Nat.sub_self]; rfl
theorem rS_all (s : ByteArray) : rS s 0 = val 256 (sB s) s.size % LL := by unfold rS; simp
def RR1 (s : ByteArray) (w : World) (b3 b4 : Nat) (v5 : Value) (wr : World) : Prop :=
  ∃ m : Nat, m ≤ s.size ∧ v5 = .int .i64 ((m : Int) - 1) ∧ Below w.heap.size w wr ∧ Row wr b3 .i64 33 lD 121 ∧ Row wr b4 .i64 33 (dig 256 (rS s m)) 121
def RR2 (w : World) (b3 b4 : Nat) (f : Nat → Int) (v6 : Value) (wr : World) : Prop :=
  ∃ i : Nat, i ≤ 32 ∧ v6 = .int .i64 (i : Int) ∧ Below w.heap.size w wr ∧ Row wr b3 .i64 33 lD 121 ∧ Row wr b4 .i64 33 (fun j => if i < j then f (j - 1) else f j) 121
def RR3 (w : World) (b3 b4 : Nat) (N : Int) (wr : World) : Prop :=
  ∃ h, D33 h ∧ val 256 h 33 % LL = N % LL ∧ Below w.heap.size w wr ∧ Row wr b3 .i64 33 lD 121 ∧ Row wr b4 .i64 33 h 121
def RR4 (w : World) (b3 b4 : Nat) (h : Nat → Int) (v8 v7 : Value) (wr : World) : Prop :=
  ∃ i : Nat, i ≤ 33 ∧ v8 = .int .i64 (i : Int) ∧ v7 = .int .i64 (- cy 256 (fun j => h j - lD j) i) ∧ Below w.heap.size w wr ∧ Row wr b3 .i64 33 lD 121 ∧ Row wr b4 .i64 33 (fun j => if j < i then sbD h j else h j) 121
def RR5 (w : World) (b4 : Nat) (R : Int) (v10 v9 : Value) (wr : World) : Prop :=
  ∃ i : Nat, i ≤ 32 ∧ v10 = .int .i64 (i : Int) ∧ OwnB wr (b4 + 1) v9 i (dig 256 R) ∧ Below w.heap.size w wr ∧ Row wr b4 .i64 33 (dig 256 R) 121 ∧ b4 + 1 ≤ wr.heap.size
set_option maxRecDepth 100000 in
set_option maxHeartbeats 4000000 in
theorem refrest_calls (s : ByteArray) (w : World) (hs : s.size ≤ 140737488351232) :
    Calls Tryd.prog 65 #[.string s] w fun e w' => e = .returned (.string (sN 32 (dig 256 (val 256 (sB s) s.size % LL)))) ∧ Below w.heap.size w w' := by
  have HSZ := Aside0.mk hs
  go_enter Tryd.func65, Tryd.ntmps65
  clear hs
  go_wp2_with fail
  refine (L_calls _).mono ?_
  rintro e w1 ⟨rfl, hb⟩
  have HB1 := Aside0.mk hb
  have HN := Aside0.mk (Row.new w1 .i64 33 (fun _ => 0) 121)
  have HB2 := Aside0.mk (hb.alloc hb.size (.cells (FR .i64 33 fun _ => 0) 121))
  have hs1 := hb.size
  clear hb
  have h32 := HSZ.out
  go_wp2_with (first | (refine zP lD HN.out info33 rfl rfl rfl rfl rfl ?_; intro w3 hs hr; have HB3 := Aside0.mk (hs.bel _ _ hs1 HB2.out); have HL := Aside0.mk hr; have HN4 := Aside0.mk (Row.new w3 .i64 33 (fun _ => 0) 121); have HL4 := Aside0.mk (hr.alloc (.cells (FR .i64 33 fun _ => 0) 121)); have hlt3 := hr.lt; have HB4 := Aside0.mk (HB3.out.alloc HB3.out.size (.cells (FR .i64 33 fun _ => 0) 121)); clear hs hr) | (refine zP (fun _ => 0) HN4.out info33 rfl rfl rfl rfl rfl ?_; intro w5 hs hr; have HB5 := Aside0.mk (hs.bel _ _ HB3.out.size HB4.out); have HL5 := Aside0.mk (HL4.out.stored hs (show w1.heap.size ≠ w3.heap.size by omega)); have HA5 := Aside0.mk hr; clear hs hr))
  have h34 : w.heap.size ≤ w3.heap.size := HB3.out.size
  clear HB1 HN HB2 HB3 HL HN4 HL4 HB4
  generalize w1.heap.size = b3 at *
  generalize w3.heap.size = b4 at *
  go_loopw [5] (fun v5 wr => RR1 s w b3 b4 v5 wr) (fun v _ => ((intOf v) + 1).toNat)
  case atStart => exact ⟨s.size, by omega, rfl, HB5.out, HL5.out, yM HA5.out (fun j hj => by rw [rS_end]; simp [dig])⟩
  case round =>
    clear HB5 HL5 HA5
    obtain ⟨m, hm, rfl, hb, hl, ha⟩ := hrel
    have HB := Aside0.mk hb
    have HL := Aside0.mk hl
    have HA := Aside0.mk ha
    clear hb hl ha
    rcases Nat.lt_or_ge 0 m with hm0 | hm0
    · obtain ⟨m, rfl⟩ : ∃ j, m = j + 1 := ⟨m - 1, by omega⟩
      have e1 : ((m + 1 : Nat) : Int) - 1 = (m : Int) := by omega
      rw [e1]
      have hge : ((m : Int) ≥ 0) = True := eq_true (by omega)
      have HRb := Aside0.mk (rS_b s (m + 1))
      have HST := Aside0.mk (rS_step s m hm)
      have HMM := Aside0.mk hm
      generalize rS s (m + 1) = R at *
      go_wp2_with fail
      have hsz := HA.out.lt
      go_loopw [6] (fun v6 wr => RR2 w b3 b4 (dig 256 R) v6 wr) (fun v _ => (intOf v).toNat)
      case atStart => exact ⟨32, by omega, rfl, HB.out, HL.out, yM HA.out (fun j hj => by rw [if_neg (by omega)])⟩
      case round =>
        clear HB HL HA
        obtain ⟨i, hi, rfl, hb, hl, ha⟩ := hrel
        have HB := Aside0.mk hb
        have HL := Aside0.mk hl
        have HA := Aside0.mk ha
        clear hb hl
        rcases Nat.lt_or_ge 0 i with hi0 | hi0
        · obtain ⟨j, rfl⟩ : ∃ j, i = j + 1 := ⟨i - 1, by omega⟩
          have k1 := ha.cell j (by omega)
          rw [if_neg (show ¬ j + 1 < j by omega)] at k1
          have k0 := ha.cell (j + 1) (by omega)
          have f0 := ha.fro (j + 1)
          have hgt : (((j + 1 : Nat) : Int) > 0) = True := eq_true (by omega)
          have e2 : ((j + 1 : Nat) : Int) - 1 = (j : Int) := by omega
          have hlt1 : ((j : Int) < 33) = True := eq_true (by omega)
          have hlt2 : (((j + 1 : Nat) : Int) < 33) = True := eq_true (by omega)
          have HS := Aside0.mk (ha.set (j + 1) (dig 256 R j) (by omega))
          clear ha
          go_wp2_with fail
          refine ⟨⟨j, by omega, rfl, yG HB.out _ _ h34, HL.out.other _ _ (show b3 ≠ b4 by omega), yM HS.out (fun x hx => ?_)⟩, by simp only [intOf]; omega⟩
          unfold upd
          by_cases hxj : x = j + 1
          · subst hxj; rw [if_pos rfl, if_pos (by omega), Nat.add_sub_cancel]
          · rw [if_neg hxj]
            show (if j + 1 < x then dig 256 R (x - 1) else dig 256 R x) = _
            by_cases hxl : j + 1 < x
            · rw [if_pos hxl, if_pos (by omega)]
            · rw [if_neg hxl, if_neg (by omega)]
        · obtain rfl : i = 0 := by omega
          obtain ⟨c0, hc0, hv0⟩ := sB_at s m HMM.out
          have l0 := c0.toNat_lt
          have HV := Aside0.mk hv0
          have q0 : ((m : Int) < (s.size : Int)) = True := eq_true (by have := HMM.out; omega)
          have q1 : wrap64 (c0.toNat : Int) = (c0.toNat : Int) := w64 _ (by omega)
          have q2 : IntKind.i64.wrap (c0.toNat : Int) = (c0.toNat : Int) := i64w _ (by omega)
          have k0 := ha.cell 0 (by omega)
          have f0 := ha.fro 0
          have HS : Aside0 (Row (wr.setCell ⟨b4, 0, none⟩ (.int .i64 (c0.toNat : Int))) b4 .i64 33 (shI (dig 256 R) (c0.toNat : Int)) 121) := ⟨yM (ha.set 0 (c0.toNat : Int) (by omega)) (fun x hx => by
            unfold upd shI
            by_cases hx0 : x = 0
            · rw [if_pos hx0, if_pos hx0]
            · rw [if_neg hx0, if_neg hx0]
              show (if 0 < x then dig 256 R (x - 1) else dig 256 R x) = _
              rw [if_pos (by omega)])⟩
          have HB2 := Aside0.mk (yG HB.out ⟨b4, 0, none⟩ (.int .i64 (c0.toNat : Int)) h34)
          have HL2 := Aside0.mk (HL.out.other ⟨b4, 0, none⟩ (.int .i64 (c0.toNat : Int)) (show b3 ≠ b4 by omega))
          have HD0 := Aside0.mk (shI_D R (c0.toNat : Int) (by omega))
          have HV0 := Aside0.mk (shI_val R (c0.toNat : Int) HRb.out)
          clear ha hv0 l0
          go_wp2_with fail
          clear HB HL HA
          go_loopw [35] (fun _ wr => RR3 w b3 b4 (256 * R + (c0.toNat : Int)) wr) (fun _ wr => rowNatB 256 33 wr b4)
          case atStart => exact ⟨_, HD0.out, by rw [HV0.out], HB2.out, HL2.out, HS.out⟩
          case round =>
            clear HB2 HL2 HS HD0 HV0 q0 q1 q2 hc0
            obtain ⟨h, hd, hv, hb, hl, ha⟩ := hrel
            have HD := Aside0.mk hd
            have HVh := Aside0.mk hv
            have HLx := Aside0.mk (lexN_val 256 (by omega) h lD 33 hd (fun j _ => lD_b j))
            have HM0 := Aside0.mk (rowNatB_of 256 ha)
            have HA := Aside0.mk ha
            have hsz2 := ha.lt
            have HB := Aside0.mk hb
            have HL := Aside0.mk hl
            clear hd hv hb hl ha
            go_wp2_with (refine zU HA.out Tryd.underlying121 info33 rfl rfl rfl rfl ?_)
            refine (below_calls h _).mono ?_
            rintro e w6 ⟨rfl, hb6⟩
            have HB6 := Aside0.mk (HB.out.trans (hb6.mono HB.out.size))
            have HL6 := Aside0.mk (HL.out.below hb6 HL.out.lt)
            have HA6 := Aside0.mk (HA.out.below hb6 HA.out.lt)
            have hsz6 := HA6.out.lt
            clear hb6 HB HL HA
            cases hx : lexN h lD 33
            · have HX := Aside0.mk hx
              clear hx
              have hxf := HX.out
              go_wp2_with fail
              clear hxf
              go_loopw [8, 7] (fun v8 v7 wr => RR4 w b3 b4 h v8 v7 wr) (fun v _ _ => 33 - (intOf v).toNat)
              case atStart => exact ⟨0, by omega, rfl, rfl, HB6.out, HL6.out, yM HA6.out (fun j hj => by rw [if_neg (by omega)])⟩
              case round =>
                clear HB6 HL6 HA6
                obtain ⟨i, hi, rfl, rfl, hb, hl, ha⟩ := hrel
                have HB := Aside0.mk hb
                have HL := Aside0.mk hl
                have HA := Aside0.mk ha
                rcases Nat.lt_or_ge i 33 with h33 | h33
                · have hlt : ((i : Int) < 33) = True := eq_true (by omega)
                  have k0 := ha.cell i h33
                  rw [if_neg (Nat.lt_irrefl i)] at k0
                  have k1 := hl.cell i h33
                  have f0 := ha.fro i
                  have hdi := HD.out i h33
                  have hli := lD_b i
                  have hcb := cyS_b h HD.out i hi
                  have HCY : Aside0 (cy 256 (fun j => h j - lD j) (i + 1) = (h i - lD i + cy 256 (fun j => h j - lD j) i) / 256) := ⟨rfl⟩
                  have HSB : Aside0 (sbD h i = (h i - lD i + cy 256 (fun j => h j - lD j) i) % 256) := ⟨rfl⟩
                  generalize cy 256 (fun j => h j - lD j) i = cyi at *
                  have q1 : wrap64 (h i - lD i) = h i - lD i := w64 _ (by omega)
                  have q2 : IntKind.i64.wrap (h i - lD i) = h i - lD i := i64w _ (by omega)
                  obtain ⟨x, hx⟩ : ∃ x, h i - lD i + cyi = x := ⟨_, rfl⟩
                  rw [hx] at HCY HSB
                  have q3 : wrap64 (h i - lD i - -cyi) = x := by rw [w64 _ (by omega)]; omega
                  have q4 : IntKind.i64.wrap (h i - lD i - -cyi) = x := by rw [i64w _ (by omega)]; omega
                  have q3' : wrap64 (h i - lD i + cyi) = x := by rw [w64 _ (by omega)]; omega
                  have hxb : -256 ≤ x ∧ x ≤ 255 := by omega
                  clear hx
                  rcases Int.lt_or_le x 0 with hx0 | hx0
                  · have HS2 : Aside0 (Row ((wr.setCell ⟨b4, i, none⟩ (.int .i64 x)).setCell ⟨b4, i, none⟩ (.int .i64 (x + 256))) b4 .i64 33 (fun j => if j < i + 1 then sbD h j else h j) 121) := ⟨yM ((ha.set i x h33).set i (x + 256) h33) (fun j hj => by
                      unfold upd
                      by_cases hji : j = i
                      · subst hji; rw [if_pos rfl, if_pos (by omega), HSB.out]; omega
                      · rw [if_neg hji, if_neg hji]
                        show (if j < i then sbD h j else h j) = _
                        by_cases hjl : j < i
                        · rw [if_pos hjl, if_pos (by omega)]
                        · rw [if_neg hjl, if_neg (by omega)])⟩
                    have HCN : Aside0 ((1 : Int) = - cy 256 (fun j => h j - lD j) (i + 1)) := ⟨by rw [HCY.out]; omega⟩
                    have hneg : (x < 0) = True := eq_true hx0
                    have q5 : wrap64 (x + 256) = x + 256 := w64 _ (by omega)
                    have q6 : IntKind.i64.wrap (x + 256) = x + 256 := i64w _ (by omega)
                    clear ha hl hb hdi hli hcb hx0
                    go_wp2_with fail
                    go_region
                    all_goals go_wp2_with fail
                    refine ⟨⟨i + 1, by omega, rfl, ?_, ?_, ?_, HS2.out⟩, zZ 33 i h33⟩
                    · rw [← HCN.out]
                    · exact yG (yG HB.out ⟨b4, i, none⟩ (.int .i64 x) h34).drew ⟨b4, i, none⟩ _ h34
                    · exact (HL.out.other ⟨b4, i, none⟩ _ (show b3 ≠ b4 by omega)).other ⟨b4, i, none⟩ _ (show b3 ≠ b4 by omega)
                  · have HS2 : Aside0 (Row (wr.setCell ⟨b4, i, none⟩ (.int .i64 x)) b4 .i64 33 (fun j => if j < i + 1 then sbD h j else h j) 121) := ⟨yM (ha.set i x h33) (fun j hj => by
                      unfold upd
                      by_cases hji : j = i
                      · subst hji; rw [if_pos rfl, if_pos (by omega), HSB.out]; omega
                      · rw [if_neg hji]
                        show (if j < i then sbD h j else h j) = _
                        by_cases hjl : j < i
                        · rw [if_pos hjl, if_pos (by omega)]
                        · rw [if_neg hjl, if_neg (by omega)])⟩
                    have HCN : Aside0 ((0 : Int) = - cy 256 (fun j => h j - lD j) (i + 1)) := ⟨by rw [HCY.out]; omega⟩
                    have hneg : (x < 0) = False := eq_false (by omega)
                    clear ha hl hb hdi hli hcb hx0
                    go_wp2_with fail
                    go_region
                    all_goals go_wp2_with fail
                    refine ⟨⟨i + 1, by omega, rfl, ?_, ?_, ?_, HS2.out⟩, zZ 33 i h33⟩
                    · rw [← HCN.out]
                    · exact (yG HB.out ⟨b4, i, none⟩ (.int .i64 x) h34).drew
                    · exact HL.out.other ⟨b4, i, none⟩ _ (show b3 ≠ b4 by omega)
                · obtain rfl : i = 33 := by omega
                  have HM := Aside0.mk (yM ha (f' := sbD h) (fun j hj => if_pos hj))
                  clear ha hl hb
                  have HXV := Aside0.mk (sbD_val h HD.out (by have h8 := HLx.out; rw [HX.out] at h8; have h9 := of_decide_eq_false h8.symm; rw [lD_val] at h9; omega))
                  have HV3 := Aside0.mk (val_b 256 (by omega) (sbD h) 33 (fun j _ => sbD_b h j)).1
                  have HV4 := Aside0.mk (val_b 256 (by omega) h 33 HD.out).1
                  go_wp2_with fail
                  refine ⟨?_, ?_⟩
                  · repeat apply Exists.intro
                    exact ⟨⟨sbD h, fun j _ => sbD_b h j, by rw [← HVh.out, HXV.out]; exact Int.sub_emod_right _ _, HB.out, HL.out, HM.out⟩, rfl⟩
                  · rw [HM0.out, rowNatB_of 256 HM.out]
                    have h1 := HXV.out
                    have h2 := HV3.out
                    have h4 := HV4.out
                    rw [h1] at h2 ⊢
                    unfold LL at *
                    omega
            · have HX := Aside0.mk hx
              clear hx
              have hxt := HX.out
              have HEQ : Aside0 (∀ j, j < 33 → h j = dig 256 (rS s m) j) := ⟨fun j hj => by
                have e1 : val 256 h 33 < LL := by have h8 := HLx.out; rw [HX.out] at h8; have h9 := of_decide_eq_true h8.symm; rwa [lD_val] at h9
                have e2 : 0 ≤ val 256 h 33 := (val_b 256 (by omega) h 33 HD.out).1
                have e3 : val 256 h 33 = rS s m := by rw [HST.out, ← HV.out, ← HVh.out, Int.emod_eq_of_lt e2 e1]
                rw [dig_val 256 (by omega) h 33 HD.out j hj, e3]⟩
              go_wp2_with fail
              exact ⟨⟨m, by have := HMM.out; omega, rfl, HB6.out, HL6.out, yM HA6.out HEQ.out⟩, by simp only [intOf]; omega⟩
    · obtain rfl : m = 0 := by omega
      have e0 : ((0 : Nat) : Int) - 1 = -1 := by omega
      rw [e0]
      clear e0
      obtain ⟨ix, hinf, hx1, hx2, hx3⟩ := info_parts info8p
      have HI := Aside0.mk hinf
      have HX1 := Aside0.mk hx1
      have HX2 := Aside0.mk hx2
      have HX3 := Aside0.mk hx3
      clear hinf hx1 hx2 hx3
      have HRA := Aside0.mk (rS_all s)
      have HRb := Aside0.mk (rS_b s 0)
      generalize rS s 0 = R at *
      have hsz := HA.out.lt
      clear HL
      go_wp2_with fail
      go_loopw [10, 9] (fun v10 v9 wr => RR5 w b4 R v10 v9 wr) (fun v _ _ => 32 - (intOf v).toNat)
      case atStart => exact ⟨0, by omega, rfl, OwnB.nil _ _ _, HB.out, HA.out, by omega⟩
      case round =>
        clear HB HA
        obtain ⟨i, hi, rfl, hown, hb, ha, hl⟩ := hrel
        have HOW := Aside0.mk hown
        have HB := Aside0.mk hb
        have HA := Aside0.mk ha
        have hal := ha.lt
        have hbs := hb.size
        clear hown hb
        rcases Nat.lt_or_ge i 32 with h33 | h33
        · have hlt : ((i : Int) < 32) = True := eq_true (by omega)
          have k0 := ha.cell i (by omega)
          have hdb := dig_b 256 (by omega) R i
          have HPU := Aside0.mk (OwnB.push (n := i) (dig 256 R))
          generalize dig 256 R i = x at *
          have q0 : IntKind.u8.wrap x = x := by rw [u8w]; omega
          have HOWa := Aside0.mk (HOW.out.kept (World.grownBy_alloc wr (.cells #[.int .u8 x] 5) none) (by simp))
          clear ha hdb
          go_wp2_with (refine wpList_append_own _ rfl _ _ 25 rfl (b4 + 1) 5 ix (.int .u8 0) 1 1 Tryd.underlying25 HI.out HX1.out HX2.out HX3.out rfl (by decide) _ i _ rfl HOWa.out ⟨wr.heap.size, 0, none⟩ 1 1 [.int .u8 x] rfl rfl (news_one _ _ _) (by simp [Value.oneCell']) (by unfold maxLen; omega) (by omega) (by simp; omega) ?_; intro v5 w5 ho5 hg5 _; have HO5 := Aside0.mk ho5; have HG5 := Aside0.mk hg5; clear ho5 hg5)
          have HB5 := Aside0.mk ((HB.out.alloc (by omega) (.cells #[.int .u8 x] 5)).grown HG5.out (by simp; omega) (fun k e => by have := (World.ownsRow.lt HOWa.out k e).1; omega))
          have HA5 : Aside0 (Row w5 b4 .i64 33 (dig 256 R) 121) := ⟨(HG5.out.block _ (by simp; omega) (fun e => by have := (World.ownsRow.lt HOWa.out _ e.symm).1; omega)).trans (HA.out.alloc _)⟩
          refine ⟨⟨i + 1, by omega, rfl, ?_, HB5.out, HA5.out, by have := HG5.out.size; simp at this; omega⟩, zZ 32 i h33⟩
          unfold OwnB
          rw [← HPU.out]
          exact HO5.out
        · obtain rfl : i = 32 := by omega
          have hcv := HOW.out.str
          clear ha
          go_wp2_with fail
          go_ret
          refine ⟨?_, HB.out⟩
          rw [← HRA.out]; rfl
theorem sN_size (n : Nat) (z : Nat → Int) : (sN n z).size = n := by simp [sN, strOfNums, ByteArray.size]
theorem sB_sN (n : Nat) (z : Nat → Int) (hz : ∀ i, i < n → 0 ≤ z i ∧ z i < 256) (i : Nat) (hi : i < n) : sB (sN n z) i = z i := by
  obtain ⟨c, h1, h2⟩ := sB_at (sN n z) i (by rw [sN_size]; exact hi)
  rw [← h2, ← h1 (by rw [sN_size]; exact hi)]
  have h3 := hz i hi
  show (((sN n z).data[i]'(by rw [show (sN n z).data.size = n from sN_size n z]; exact hi)).toNat : Int) = z i
  simp [sN, strOfNums]
  omega
theorem sN_val (n : Nat) (z : Nat → Int) (hz : ∀ i, i < n → 0 ≤ z i ∧ z i < 256) : val 256 (sB (sN n z)) (sN n z).size = val 256 z n := by
  rw [sN_size]; exact val_congr 256 _ _ n (fun i hi => sB_sN n z hz i hi)
theorem By.sB (s : ByteArray) : By (P.sB s) := fun j _ => sB_b s j
def czB (c : ByteArray) (j : Nat) : Int := if j < c.size then sB c j else 0
theorem czB_By (c : ByteArray) : By (czB c) := fun j _ => by
  unfold czB; split
  · exact sB_b c j
  · omega
theorem czB_N (c : ByteArray) (h : c.size ≤ 32) : N32 (czB c) = val 256 (sB c) c.size := val_ext0 256 (sB c) c.size 32 h
theorem pH_val66 (f g c : Nat → Int) : val 256 (pH f g c) 66 = N32 f * N32 g + N32 c := by
  have h1 := pS_val 66 (by omega) f g 32 (by omega)
  have h2 := val_ext0 256 c 32 66 (by omega)
  have h3 : val 256 (pH f g c) 66 = val 256 (pS f g 1024) 66 + val 256 (fun j => if j < 32 then c j else 0) 66 := val_add 256 _ _ 66
  rw [h3, h2]
  show _ = val 256 f 32 * val 256 g 32 + val 256 c 32
  rw [← h1]
def rB (f g c : Nat → Int) (j : Nat) : Int := (pH f g c j + cy 256 (pH f g c) j) % 256
theorem rB_b (f g c : Nat → Int) (j : Nat) : 0 ≤ rB f g c j ∧ rB f g c j < 256 := by unfold rB; omega
theorem rB_val (f g c : Nat → Int) (hf : By f) (hg : By g) (hc : By c) : val 256 (rB f g c) 66 = N32 f * N32 g + N32 c := by
  have h := (cy_div 256 (by omega) (pH f g c) 66).2
  rw [pH_val66] at h
  have ha := N32_b f hf
  have hb := N32_b g hg
  have hcc := N32_b c hc
  have hm : N32 f * N32 g ≤ 256 ^ 32 * 256 ^ 32 := Int.le_trans (Int.mul_le_mul_of_nonneg_right (Int.le_of_lt ha.2) hb.1) (Int.mul_le_mul_of_nonneg_left (Int.le_of_lt hb.2) (by decide))
  have hm0 : 0 ≤ N32 f * N32 g := Int.mul_nonneg ha.1 hb.1
  have e0 : (256 : Int) ^ 32 * 256 ^ 32 + 256 ^ 32 < 256 ^ 66 := by decide
  show val 256 (fun i => (pH f g c i + cy 256 (pH f g c) i) % 256) 66 = _
  rw [h]
  exact Int.emod_eq_of_lt (by omega) (by omega)
theorem zero66 (w : World) : (zeroValue 95).run Tryd.prog w = .ok (.agg (FR .i64 66 fun _ => 0)) w := by kernel_rfl
theorem w64p (x : Int) (h0 : 0 ≤ x) (h1 : x ≤ 1000000000) : wrap64 x = x := w64 _ (by omega)
theorem i64p (x : Int) (h0 : 0 ≤ x) (h1 : x ≤ 1000000000) : IntKind.i64.wrap x = x := i64w _ (by omega)
theorem pS_small (f g : Nat → Int) (hf : By f) (hg : By g) (s : Nat) (hs : s ≤ 1024) (j : Nat) (p : Int) (hp : 0 ≤ p ∧ p ≤ 65025) : 0 ≤ pS f g s j + p ∧ pS f g s j + p ≤ 1000000000 := by
  have := pS_b f g hf hg s hs j
  have h2 : ((s : Nat) : Int) ≤ 1024 := by omega
  constructor <;> omega
theorem byte_small (x : UInt8) : 0 ≤ (x.toNat : Int) ∧ (x.toNat : Int) ≤ 1000000000 := by have := x.toNat_lt; omega
def KR1 (f g : Nat → Int) (w : World) (v8 : Value) (wr : World) : Prop := ∃ i : Nat, i ≤ 32 ∧ v8 = .int .i64 (i : Int) ∧ Below w.heap.size w wr ∧ Row wr w.heap.size .i64 66 (pS f g (32 * i)) 95
def KR2 (f g : Nat → Int) (w : World) (i : Nat) (v9 : Value) (wr : World) : Prop := ∃ k : Nat, k ≤ 32 ∧ v9 = .int .i64 (k : Int) ∧ Below w.heap.size w wr ∧ Row wr w.heap.size .i64 66 (pS f g (32 * i + k)) 95
def KR3 (f g : Nat → Int) (c : ByteArray) (w : World) (v10 : Value) (wr : World) : Prop := ∃ i : Nat, i ≤ c.size ∧ v10 = .int .i64 (i : Int) ∧ Below w.heap.size w wr ∧ Row wr w.heap.size .i64 66 (fun j => if j < i then pS f g 1024 j + sB c j else pS f g 1024 j) 95
def KR4 (f g c : Nat → Int) (w : World) (v13 v11 v12 : Value) (wr : World) : Prop :=
  ∃ i : Nat, i ≤ 66 ∧ v13 = .int .i64 (i : Int) ∧ v12 = .int .i64 (cy 256 (pH f g c) i) ∧ OwnB wr (w.heap.size + 1) v11 i (rB f g c) ∧ Below w.heap.size w wr ∧ Row wr w.heap.size .i64 66 (pH f g c) 95 ∧ w.heap.size + 1 ≤ wr.heap.size
set_option maxRecDepth 100000 in
set_option maxHeartbeats 4000000 in
theorem refmul_calls (a b c : ByteArray) (w : World) (ha : a.size = 32) (hb : b.size = 32) (hc : c.size ≤ 32) :
    Calls Tryd.prog 34 #[.string a, .string b, .string c] w fun e w' => e = .returned (.string (sN 32 (dig 256 ((N32 (sB a) * N32 (sB b) + val 256 (sB c) c.size) % LL)))) ∧ Below w.heap.size w w' := by
  have HC := Aside0.mk hc
  have HBa := Aside0.mk hb
  have HAa := Aside0.mk ha
  have HB0 := Aside0.mk ((Below.refl w.heap.size w).alloc (Nat.le_refl _) (.cells (FR .i64 66 fun _ => 0) 95))
  have HR0 := Aside0.mk (Row.new w .i64 66 (fun _ => 0) 95)
  go_enter Tryd.func34, Tryd.ntmps34
  clear hc
  have hzv := zero66
  go_wp2_with fail
  clear hzv
  go_loopw [8] (fun v8 wr => KR1 (sB a) (sB b) w v8 wr) (fun v _ => 32 - (intOf v).toNat)
  case atStart => exact ⟨0, by omega, rfl, HB0.out, HR0.out⟩
  case round =>
    clear HB0 HR0
    obtain ⟨i, hi, rfl, hbl, ht⟩ := hrel
    have HB := Aside0.mk hbl
    have HT := Aside0.mk ht
    clear hbl ht
    rcases Nat.lt_or_ge i 32 with h32 | h32
    · have hlt : ((i : Int) < 32) = True := eq_true (by omega)
      go_wp2_with fail
      go_loopw [9] (fun v9 wr => KR2 (sB a) (sB b) w i v9 wr) (fun v _ => 32 - (intOf v).toNat)
      case atStart => exact ⟨0, by omega, rfl, HB.out, HT.out⟩
      case round =>
        clear HB HT
        obtain ⟨k, hk, rfl, hbl, ht⟩ := hrel
        have HB := Aside0.mk hbl
        have HT := Aside0.mk ht
        clear hbl
        rcases Nat.lt_or_ge k 32 with h33 | h33
        · have hltk : ((k : Int) < 32) = True := eq_true (by omega)
          have hlt66 : ((i : Int) + (k : Int) < 66) = True := eq_true (by omega)
          have hij := ij_nat i k
          have q1 : wrap64 ((i : Int) + (k : Int)) = (i : Int) + (k : Int) := w64 _ (by omega)
          have q2 : IntKind.i64.wrap ((i : Int) + (k : Int)) = (i : Int) + (k : Int) := i64w _ (by omega)
          have k2 := ht.cell (i + k) (by omega)
          have f2 := ht.fro (i + k)
          obtain ⟨x, hx, hvx⟩ := sB_at a i (by omega)
          obtain ⟨y, hy, hvy⟩ := sB_at b k (by omega)
          have hp := byte_mul (sB_b a i) (sB_b b k)
          have HS := Aside0.mk (ht.set (i + k) (pS (sB a) (sB b) (32 * i + k) (i + k) + sB a i * sB b k) (by omega))
          have HE := Aside0.mk (pS_step (sB a) (sB b) i k h33)
          rw [← hvx, ← hvy] at HS HE hp
          obtain ⟨p, hxy⟩ : ∃ p, (x.toNat : Int) * (y.toNat : Int) = p := ⟨_, rfl⟩
          rw [hxy] at HS HE hp
          have hsm := pS_small (sB a) (sB b) (By.sB a) (By.sB b) (32 * i + k) (by omega) (i + k) p hp
          have q5 := w64p p hp.1 (Int.le_trans hp.2 (by decide))
          have q5' := i64p p hp.1 (Int.le_trans hp.2 (by decide))
          have q6 := w64p _ hsm.1 hsm.2
          have q6' := i64p _ hsm.1 hsm.2
          have q3 := w64p _ (byte_small x).1 (byte_small x).2
          have q4 := w64p _ (byte_small y).1 (byte_small y).2
          have q3' := i64p _ (byte_small x).1 (byte_small x).2
          have q4' := i64p _ (byte_small y).1 (byte_small y).2
          clear hsm
          clear ht hp hvx hvy
          go_wp2_with fail
          go_region
          all_goals go_wp2_with fail
          refine ⟨⟨k + 1, by omega, rfl, (yG HB.out ⟨w.heap.size, i + k, none⟩ _ (Nat.le_refl _)).drew, ?_⟩, zZ 32 k h33⟩
          rw [HE.out]
          exact HS.out
        · obtain rfl : k = 32 := by omega
          clear ht
          go_wp2_with fail
          exact ⟨⟨i + 1, by omega, rfl, HB.out, HT.out⟩, zZ 32 i h32⟩
    · obtain rfl : i = 32 := by omega
      have e32 : ((32 : Nat) : Int) = 32 := rfl
      rw [e32]
      clear e32
      go_wp2_with fail
      go_loopw [10] (fun v10 wr => KR3 (sB a) (sB b) c w v10 wr) (fun v _ => c.size - (intOf v).toNat)
      case atStart => exact ⟨0, by omega, rfl, HB.out, yM HT.out (fun j hj => by rw [if_neg (by omega)])⟩
      case round =>
        clear HB HT
        obtain ⟨i, hi, rfl, hbl, ht⟩ := hrel
        have HB := Aside0.mk hbl
        have HT := Aside0.mk ht
        have hcs := HC.out
        clear hbl
        rcases Nat.lt_or_ge i c.size with h33 | h33
        · have hlt : ((i : Int) < (c.size : Int)) = True := eq_true (by omega)
          have hlt66 : ((i : Int) < 66) = True := eq_true (by omega)
          have k0 := ht.cell i (by omega)
          rw [if_neg (Nat.lt_irrefl i)] at k0
          have f0 := ht.fro i
          obtain ⟨x, hx, hvx⟩ := sB_at c i h33
          have HS := Aside0.mk (ht.set i (pS (sB a) (sB b) 1024 i + sB c i) (by omega))
          have HVX := Aside0.mk hvx
          rw [← hvx] at HS
          have lx : 0 ≤ (x.toNat : Int) ∧ (x.toNat : Int) ≤ 65025 := by have := x.toNat_lt; omega
          have hsm := pS_small (sB a) (sB b) (By.sB a) (By.sB b) 1024 (by omega) i (x.toNat : Int) lx
          have q6 := w64p _ hsm.1 hsm.2
          have q6' := i64p _ hsm.1 hsm.2
          have q3 := w64p _ (byte_small x).1 (byte_small x).2
          have q3' := i64p _ (byte_small x).1 (byte_small x).2
          clear hsm lx
          clear ht hvx
          go_wp2_with fail
          go_region
          all_goals go_wp2_with fail
          refine ⟨⟨i + 1, by omega, rfl, (yG HB.out ⟨w.heap.size, i, none⟩ _ (Nat.le_refl _)).drew, yM HS.out (fun j hj => ?_)⟩, zZ c.size i h33⟩
          unfold upd
          by_cases hji : j = i
          · subst hji; rw [if_pos rfl, if_pos (by omega), HVX.out]
          · rw [if_neg hji]
            show (if j < i then pS (sB a) (sB b) 1024 j + sB c j else pS (sB a) (sB b) 1024 j) = _
            by_cases hjl : j < i
            · rw [if_pos hjl, if_pos (by omega)]
            · rw [if_neg hjl, if_neg (by omega)]
        · obtain rfl : i = c.size := by omega
          have HH := Aside0.mk (yM ht (f' := pH (sB a) (sB b) (czB c)) (fun j hj => by
            unfold pH czB
            by_cases hjl : j < c.size
            · rw [if_pos hjl, if_pos (by omega), if_pos hjl]
            · rw [if_neg hjl]
              split
              · first | omega | (rw [if_neg hjl]; omega)
              · omega))
          have hsz := ht.lt
          obtain ⟨ix, hinf, hx1, hx2, hx3⟩ := info_parts info8p
          have HI := Aside0.mk hinf
          have HX1 := Aside0.mk hx1
          have HX2 := Aside0.mk hx2
          have HX3 := Aside0.mk hx3
          have hF : ((c.size : Int) < (c.size : Int)) = False := eq_false (by omega)
          clear ht hinf hx1 hx2 hx3
          go_wp2_with fail
          clear hF
          go_loopw [13, 11, 12] (fun v13 v11 v12 wr => KR4 (sB a) (sB b) (czB c) w v13 v11 v12 wr) (fun v _ _ _ => 66 - (intOf v).toNat)
          case atStart => exact ⟨0, by omega, rfl, rfl, OwnB.nil _ _ _, HB.out, HH.out, by omega⟩
          case round =>
            clear HB HH HT
            obtain ⟨i, hi, rfl, rfl, hown, hbl, ht, hl⟩ := hrel
            have HOW := Aside0.mk hown
            have HB := Aside0.mk hbl
            have HT := Aside0.mk ht
            clear hown hbl
            rcases Nat.lt_or_ge i 66 with h66 | h66
            · have hlt : ((i : Int) < 66) = True := eq_true (by omega)
              have k0 := ht.cell i h66
              have hcb := cyH_b (sB a) (sB b) (czB c) (By.sB a) (By.sB b) (czB_By c) i
              have hpb := pH_b (sB a) (sB b) (czB c) (By.sB a) (By.sB b) (czB_By c) i
              have HCY : Aside0 (cy 256 (pH (sB a) (sB b) (czB c)) (i + 1) = (pH (sB a) (sB b) (czB c) i + cy 256 (pH (sB a) (sB b) (czB c)) i) / 256) := ⟨rfl⟩
              have HPU := Aside0.mk (OwnB.push (n := i) (rB (sB a) (sB b) (czB c)))
              have HRB : Aside0 (rB (sB a) (sB b) (czB c) i = (pH (sB a) (sB b) (czB c) i + cy 256 (pH (sB a) (sB b) (czB c)) i) % 256) := ⟨rfl⟩
              generalize cy 256 (pH (sB a) (sB b) (czB c)) i = y at *
              generalize pH (sB a) (sB b) (czB c) i = p at *
              obtain ⟨Y, hY⟩ : ∃ Y, p + y = Y := ⟨_, rfl⟩
              rw [hY] at HCY HRB
              have q1 : wrap64 (y + p) = Y := by rw [w64 _ (by omega)]; omega
              have q1' : IntKind.i64.wrap (y + p) = Y := by rw [i64w _ (by omega)]; omega
              have hY0 : 0 ≤ Y ∧ Y ≤ 100000000 := by omega
              have q2 : Int.tmod Y 256 = Y % 256 := Int.tmod_eq_emod_of_nonneg hY0.1
              have q3 : Int.tdiv Y 256 = Y / 256 := Int.tdiv_eq_ediv_of_nonneg hY0.1
              have q4 : IntKind.u8.wrap (Y % 256) = Y % 256 := by rw [u8w]; omega
              have q4' : Y % 256 % 256 = Y % 256 := by omega
              have q5 : wrap64 (Y / 256) = Y / 256 := w64 _ (by omega)
              have q5' : IntKind.i64.wrap (Y / 256) = Y / 256 := i64w _ (by omega)
              have y0 := hY0.1
              have HOWa := Aside0.mk (HOW.out.kept (World.grownBy_alloc wr (.cells #[.int .u8 (Y % 256)] 5) none) (by simp))
              clear ht hcb hpb hY
              go_wp2_with (refine wpList_append_own _ rfl _ _ 25 rfl (w.heap.size + 1) 5 ix (.int .u8 0) 1 1 Tryd.underlying25 HI.out HX1.out HX2.out HX3.out rfl (by decide) _ i _ rfl HOWa.out ⟨wr.heap.size, 0, none⟩ 1 1 [.int .u8 (Y % 256)] rfl rfl (news_one _ _ _) (by simp [Value.oneCell']) (by unfold maxLen; omega) (by omega) (by simp; omega) ?_; intro v5 w5 ho5 hg5 _; have HO5 := Aside0.mk ho5; have HG5 := Aside0.mk hg5; clear ho5 hg5)
              have HB5 := Aside0.mk ((HB.out.alloc (by omega) (.cells #[.int .u8 (Y % 256)] 5)).grown HG5.out (by simp; omega) (fun k e => by have := (World.ownsRow.lt HOWa.out k e).1; omega))
              have HT5 : Aside0 (Row w5 w.heap.size .i64 66 (pH (sB a) (sB b) (czB c)) 95) := ⟨(HG5.out.block _ (by simp; omega) (fun e => by have := (World.ownsRow.lt HOWa.out _ e.symm).1; omega)).trans (HT.out.alloc _)⟩
              refine ⟨⟨i + 1, by omega, rfl, by rw [HCY.out], ?_, HB5.out, HT5.out, by have := HG5.out.size; simp at this; omega⟩, zZ 66 i h66⟩
              unfold OwnB
              rw [← HPU.out, HRB.out]
              exact HO5.out
            · obtain rfl : i = 66 := by omega
              have hcv := HOW.out.str
              clear ht
              go_wp2_with fail
              refine (refrest_calls (sN 66 (rB (sB a) (sB b) (czB c))) _ (by rw [sN_size]; omega)).mono ?_
              rintro e w6 ⟨rfl, hb6⟩
              have HB6 := Aside0.mk (HB.out.trans (hb6.mono HB.out.size))
              clear hb6 hcv
              go_wp2_with fail
              go_ret
              refine ⟨?_, HB6.out⟩
              rw [← czB_N c HC.out, ← rB_val _ _ _ (By.sB a) (By.sB b) (czB_By c), ← sN_val 66 _ (fun i _ => rB_b _ _ _ i)]
              rfl
end Go.Proofs.YtbmnkchcekacfaaDoor.P
end

section
namespace Go.Proofs.YtbmnkchcekacfaaDoor.P
set_option linter.unusedVariables false
set_option linter.unusedSimpArgs false
open Go.RowKit Go.ChangeShapes Go.WideShapes Go.Proofs.YtbmnkchcekacfaaDoorW.PrintWords Go.Proofs.YtbmnkchcekacfaaDoorW.PrintLast Go.Proofs.YtbmnkchcekacfaaDoorW.PrintMore
section
variable {P : Program} {ops : Array Oper} {Q : Exit → Act → World → Prop}
theorem Sl.put {a : Act} {sz : Nat} {S : List (Tmp × Value)} {t : Tmp} {v : Value} (h : Sl a sz S) (hf : (S.all fun e => !(e.1 == t)) = true) (ht : Nat.ble (t + 1) sz = true) : Sl (a.put (some t) v) sz ((t, v) :: S) := by
  obtain ⟨h1, h2, h3⟩ := h
  have hlt : t < a.tmps.size := by rw [h1]; exact Nat.le_of_ble_eq_true ht
  refine ⟨by simpa [Act.put] using h1, h2, fun e he => ?_⟩
  rcases List.mem_cons.1 he with rfl | he
  · show (a.tmps.setIfInBounds t v).getD t undef = v
    rw [Array.getD_eq_getD_getElem?, Array.getElem?_setIfInBounds_self_of_lt hlt]; rfl
  · have hne := List.all_eq_true.1 hf e he
    have hne : t ≠ e.1 := fun c => by rw [c] at hne; simp at hne
    have h4 : a.tmps.getD e.1 undef = e.2 := h3 e he
    show (a.tmps.setIfInBounds t v).getD e.1 undef = e.2
    rw [Array.getD_eq_getD_getElem?, Array.getElem?_setIfInBounds_ne hne, ← Array.getD_eq_getD_getElem?]
    exact h4
theorem l_run {o : Oper} {rest : List Oper} {a : Act} {w w1 : World} {sz : Nat} {S : List (Tmp × Value)} {t : Tmp} {v : Value} (hd : o.dst = some t) (hg : o.guard = none) (hS : Sl a sz S) (hf : (S.all fun e => !(e.1 == t)) = true) (ht : Nat.ble (t + 1) sz = true)
    (hrun : (execOp a.eval o).run P w = .ok (.value v) w1) (h : ∀ a', Sl a' sz ((t, v) :: S) → wpList P ops Q rest a' w1) : wpList P ops Q (o :: rest) a w :=
  wpList_plain hg fun K hK => by
    unfold Oper.wp
    rw [hrun]
    show K (a.put o.dst v) w1
    rw [hd]
    exact hK _ _ (h _ (hS.put hf ht))
theorem l_call {o : Oper} {rest : List Oper} {a : Act} {w : World} {sz : Nat} {S : List (Tmp × Value)} {t : Tmp} {v : Value} {f : FuncId} {fn : Func} {asx : Array Operand} {ts : Array TypeId} (args : Array Value) (hd : o.dst = some t) (hg : o.guard = none) (hop : o.op = .call { callee := .value (.func f), args := asx, argTypes := ts }) (hS : Sl a sz S) (hf : (S.all fun e => !(e.1 == t)) = true) (ht : Nat.ble (t + 1) sz = true)
    (hff : P.funcs[f]? = some fn) (hname : (fn.name == "runtime.NumGoroutine") = false) (hb : fn.body.isSome = true) (hargs : asx.map a.eval = args) (hc : Calls P f args w fun e w' => e = .returned v ∧ Below w.heap.size w w')
    (h : ∀ a' w', Below w.heap.size w w' → Sl a' sz ((t, v) :: S) → wpList P ops Q rest a' w') : wpList P ops Q (o :: rest) a w :=
  goesL_ (some t) hd hg hff hname hb args hop hargs (hc.mono (by
    rintro e w' ⟨rfl, hb⟩
    exact ⟨v, rfl, h _ _ hb (hS.put hf ht)⟩))
theorem exec_convertW {o : Oper} {ev : Operand → Value} {w w' : World} {s d : TypeId} {x : Operand} {a v : Value} (ho : o.op = .convert s d x) (hx : ev x = a) (h : (convert s d a).run P w = .ok v w') : (execOp ev o).run P w = .ok (.value v) w' := by
  unfold execOp
  simp only [ho, hx]
  rw [Sem.run_bind, h]
  rfl
theorem sl_tell {a : Act} {sz : Nat} {S S' : List (Tmp × Value)} (h : Sl a sz S) (hm : ∀ e ∈ S', e ∈ S) : Sl a sz S' := ⟨h.1, h.2.1, fun e he => h.2.2 e (hm e he)⟩
end
theorem conv_sN (n : Nat) (Y : Nat → Int) (hY : ∀ j, j < n → 0 ≤ Y j ∧ Y j < 256) (w : World) : ∃ w5 c5, (convert 9 25 (.string (Dg.sN n Y))).run Tryd.prog w = .ok (.slice (some ⟨w.heap.size, 0, none⟩) n c5) w5 ∧ Below w.heap.size w w5 ∧ NumsAt .u8 w5 (some ⟨w.heap.size, 0, none⟩) n Y := by
  have hz : (Dg.sN n Y).size = n := by simp [Dg.sN, strOfNums, ByteArray.size]
  refine ⟨Lib.bytesWorld w 5 (Dg.sN n Y), grownCap w n 0 5, by rw [Lib.run_convert_string_bytes w 9 25 5 (Dg.sN n Y) Tryd.underlying9 Tryd.underlying25 Tryd.underlying5, hz], ⟨rfl, rfl, rfl, by rw [Lib.bytesWorld_size]; omega, fun k hk => Lib.bytesWorld_at_old w _ _ k hk⟩, .inr ⟨_, rfl, fun j hj => ?_⟩⟩
  rw [add_at, Nat.zero_add, Lib.bytesWorld_cell w _ _ j (by omega)]
  have h1 := hY j hj
  have e : (((Dg.sN n Y).data.toList.getD j 0).toNat : Int) = Y j := by
    show (((((List.range n).map Y).map fun n => UInt8.ofNat n.toNat).getD j 0).toNat : Int) = Y j
    rw [List.getD_eq_getElem?_getD, List.getElem?_map, List.getElem?_map, List.getElem?_range hj]
    simp
    omega
  rw [e]
theorem sN_app (n m : Nat) (f g : Nat → Int) : Dg.sN n f ++ Dg.sN m g = Dg.sN (n + m) (cat2 n f g) := by
  apply ByteArray.ext
  apply Array.ext'
  show _ = (((List.range (n + m)).map (cat2 n f g)).map fun n => UInt8.ofNat n.toNat)
  have e1 : (Dg.sN n f ++ Dg.sN m g).data.toList = (((List.range n).map f).map fun n => UInt8.ofNat n.toNat) ++ (((List.range m).map g).map fun n => UInt8.ofNat n.toNat) := by
    simp [Dg.sN, strOfNums]
  rw [e1]
  apply List.ext_getElem?
  intro j
  rw [List.getElem?_append]
  simp only [List.length_map, List.length_range, List.getElem?_map]
  by_cases h1 : j < n
  · rw [if_pos h1, List.getElem?_range h1, List.getElem?_range (by omega)]
    simp [cat2, h1]
  · rw [if_neg h1]
    by_cases h2 : j < n + m
    · rw [List.getElem?_range (by omega), List.getElem?_range h2]
      simp [cat2, h1]
    · rw [List.getElem?_eq_none (by simp; omega), List.getElem?_eq_none (by simp; omega)]; rfl
theorem sN_size' (n : Nat) (z : Nat → Int) : (Dg.sN n z).size = n := by simp [Dg.sN, strOfNums, ByteArray.size]
theorem sN_cut (n lo hi : Nat) (f : Nat → Int) (h1 : lo ≤ hi) (h2 : hi ≤ n) : (Dg.sN n f).extract lo hi = Dg.sN (hi - lo) (fun j => f (lo + j)) := by
  apply ByteArray.ext
  apply Array.ext'
  apply List.ext_getElem?
  intro j
  simp [Dg.sN, strOfNums]
  by_cases h3 : j < hi - lo
  · simp [List.getElem?_take, h3, List.getElem?_range (show lo + j < n by omega), List.getElem?_range h3]
  · simp [List.getElem?_take, h3]
theorem sN_congr {n : Nat} {f g : Nat → Int} (h : ∀ j, j < n → f j = g j) : Dg.sN n f = Dg.sN n g := by
  unfold Dg.sN
  congr 1
  exact List.map_congr_left (fun j hj => h j (List.mem_range.1 hj))
theorem index_sN {n : Nat} {f : Nat → Int} (hf : ∀ j, j < n → 0 ≤ f j ∧ f j < 256) {k : Nat} (hk : k < n) (w : World) : (Instr.index 9 (.string (Dg.sN n f)) (.int .i64 (k : Int))).run Tryd.prog w = .ok (.int .u8 (f k)) w := by
  have hz := sN_size' n f
  have h0 : (0 : Int) ≤ (k : Int) := by omega
  have h1 : (k : Int).toNat = k := by omega
  have hl : (k : Int) < ((Dg.sN n f).size : Int) := by rw [hz]; omega
  have hl2 : k < (Dg.sN n f).size := by rw [hz]; exact hk
  have hb := hf k hk
  have e : (((Dg.sN n f)[k]'hl2).toNat : Int) = f k := by
    show ((((List.range n).map f).map fun n => UInt8.ofNat n.toNat).toArray[k].toNat : Int) = f k
    simp
    omega
  go_simp
  try exact e
theorem slice_sN {n : Nat} {f : Nat → Int} (lo hi : Nat) (h1 : lo ≤ hi) (h2 : hi ≤ n) (hn : n ≤ 1000000) {l h : Option Value} (hl : (l = none ∧ lo = 0) ∨ l = some (.int .i64 (lo : Int))) (hh : (h = none ∧ hi = n) ∨ h = some (.int .i64 (hi : Int))) (w : World) :
    (Instr.sliceAt 9 (.string (Dg.sN n f)) l h none).run Tryd.prog w = .ok (.string (Dg.sN (hi - lo) (fun j => f (lo + j)))) w := by
  rw [← sN_cut n lo hi f h1 h2]
  have hz := sN_size' n f
  generalize Dg.sN n f = s at hz ⊢
  subst hz
  have q0 : (0 : Int) ≤ (lo : Int) := by omega
  have q1 : (0 : Int) ≤ (hi : Int) := by omega
  have q2 : (lo : Int) ≤ (hi : Int) := by omega
  have q3 : (hi : Int) ≤ (s.size : Int) := by omega
  have q4 : (lo : Int).toNat = lo := by omega
  have q5 : (hi : Int).toNat = hi := by omega
  have q6 : (lo : Int) ≤ (s.size : Int) := by omega
  rcases hl with ⟨rfl, rfl⟩ | rfl <;> rcases hh with ⟨rfl, rfl⟩ | rfl <;> go_simp
theorem number_calls (n : Nat) (z : Nat → Int) (w : World) (hn : n ≤ 100000) (hz : ∀ j, j < n → 0 ≤ z j ∧ z j < 256) : Calls Tryd.prog 30 #[.string (Dg.sN n z)] w fun e w' => e = .returned (.string (Dg.sN 32 (nmb z n))) ∧ Below w.heap.size w w' := by
  refine enter_ 7 Tryd.func30 rfl rfl (fun a0 hS => ?_)
  have HS0 : Sl a0 7 [(0, .string (Dg.sN n z))] := hS
  clear hS
  refine wp_seq (wp_region_list ?_)
  refine l_run rfl rfl HS0 rfl rfl (zF (.inr rfl) rfl) (fun a1 HS1 => ?_)
  refine wpList_nil (then_ ?_)
  refine wp_seq (wp_region_list ?_)
  have HS1 := sl_tell (S' := [(0, .string (Dg.sN n z))]) HS1 (by simp)
  refine l_run rfl rfl HS1 rfl rfl (zF (.inl rfl) (HS1.get 0 rfl)) (fun a2 HS2 => ?_)
  obtain ⟨w3, c3, hcv, hb3, hnum⟩ := conv_sN n z hz w
  refine l_run rfl rfl HS2 rfl rfl (exec_convertW rfl (HS2.get 0 rfl) hcv) (fun a3 HS3 => ?_)
  refine l_call #[.slice (some ⟨w.heap.size, 0, none⟩) n c3] rfl rfl rfl HS3 rfl rfl Tryd.func42 rfl rfl (args1 (HS3.get 0 rfl)) (Dg.refof_calls z _ n c3 w3 hnum (fun e => (by cases e)) (by omega) hz) (fun a4 w4 hb4 HS4 => ?_)
  have hr := refrest_calls (Dg.sN 64 (Dg.dg z n)) w4 (by rw [sN_size']; omega)
  have hv : val 256 (sB (Dg.sN 64 (Dg.dg z n))) (Dg.sN 64 (Dg.dg z n)).size = val 256 (Dg.dg z n) 64 := sN_val 64 (Dg.dg z n) (fun i _ => Dg.dg_b z n i)
  rw [hv] at hr
  refine l_call #[.string (Dg.sN 64 (Dg.dg z n))] rfl rfl rfl HS4 rfl rfl Tryd.func65 rfl rfl (args1 (HS4.get 0 rfl)) hr (fun a5 w5 hb5 HS5 => ?_)
  refine l_run (t := 2) rfl rfl HS5 rfl rfl (zF (.inr rfl) (HS5.get 0 rfl)) (fun a6 HS6 => ?_)
  refine wpList_nil (then_ ?_)
  refine wp_ret ?_
  exact b_tmp rfl HS6.2.1 (HS6.get 0 rfl) ⟨rfl, (hb3.trans (hb4.mono hb3.size)).trans (hb5.mono (hb3.trans (hb4.mono hb3.size)).size)⟩
end Go.Proofs.YtbmnkchcekacfaaDoor.P
end

section
namespace Go.Proofs.YtbmnkchcekacfaaDoor.P.Dg
set_option linter.unusedVariables false
set_option linter.unusedSimpArgs false
open Go.RowKit Go.Proofs.YtbmnkchcekacfaaDoorW.PrintWords Go.Proofs.YtbmnkchcekacfaaDoorW.PrintLast Go.Proofs.YtbmnkchcekacfaaDoorW.PrintMore
attribute [local go_sem] setCell_drewN
def bbz (j : Nat) : Int := if j = 0 then 88 else 102
def BRel (w : World) (v1 : Value) (wr : World) : Prop := ∃ n : Nat, 1 ≤ n ∧ n ≤ 32 ∧ OwnB wr (w.heap.size + 1) v1 n bbz ∧ Row wr w.heap.size .i64 64 (fun _ => 0) 52 ∧ Below w.heap.size w wr ∧ w.heap.size + 1 ≤ wr.heap.size
theorem infoPr2 : (Tryd.prog.info? 52).map (·.size) = some 64 := by kernel_rfl
theorem own_one (w : World) (base : Nat) (hb : base ≤ w.heap.size) : OwnB (w.alloc (.cells #[.int .u8 88] 5)) base (.slice (some ⟨w.heap.size, 0, none⟩) 1 1) 1 bbz :=
  .inr ⟨w.heap.size, 0, 1, #[.int .u8 88], rfl, hb, heap_alloc_new w _, by omega, by unfold maxLen; omega, by simp, fun j hj => by
    have : j = 0 := by omega
    rw [this]; rfl⟩
theorem bbz_str : sN 32 bbz = sOf (bBf 32) := by
  refine congrArg strOfNums (List.map_congr_left (fun j hj => ?_))
  have := List.mem_range.1 hj
  unfold bbz bBf
  by_cases h : j = 0
  · rw [if_pos h, if_pos h]
  · rw [if_neg h, if_neg h, if_pos (by omega)]
set_option maxRecDepth 100000 in
set_option maxHeartbeats 2000000 in
theorem _root_.Go.Proofs.YtbmnkchcekacfaaDoor.P.refbase_calls (w : World) : Calls Tryd.prog 23 #[] w fun e w' => e = .returned (.agg (FR .i64 64 (decRP (bBf 32)))) ∧ Below w.heap.size w w' := by
  have HR0 := Aside0.mk ((Row.new w .i64 64 (fun _ => 0) 52).alloc (.cells #[.int .u8 88] 5))
  have HB0 := Aside0.mk (bel_two w (.cells (FR .i64 64 fun _ => 0) 52) (.cells #[.int .u8 88] 5))
  have HS0 : Aside0 (w.heap.size + 1 ≤ ((w.alloc (.cells (FR .i64 64 fun _ => 0) 52)).alloc (.cells #[.int .u8 88] 5)).heap.size) := ⟨by simp⟩
  have hgs : (w.alloc (.cells (FR .i64 64 fun _ => 0) 52)).heap.size = w.heap.size + 1 := by simp
  have hO := own_one (w.alloc (.cells (FR .i64 64 fun _ => 0) 52)) (w.heap.size + 1) (by rw [hgs]; omega)
  rw [hgs] at hO
  have HO0 := Aside0.mk hO
  clear hO hgs
  go_enter Tryd.func23, Tryd.ntmps23
  go_wp2_with fail
  go_loopw [1] (fun v1 wr => BRel w v1 wr) (fun v _ => 32 - slen v)
  case atStart => exact ⟨1, by omega, by omega, HO0.out, HR0.out, HB0.out, HS0.out⟩
  case round =>
    clear HO0 HR0 HB0 HS0
    obtain ⟨n, hn1, hn2, hown, hrow, hb, hsz⟩ := hrel
    have HOW := Aside0.mk hown
    have HR := Aside0.mk hrow
    have HB := Aside0.mk hb
    have HSZ := Aside0.mk hsz
    obtain ⟨x, c, rfl⟩ := hown.form
    have hsz1 := hsz
    have hbs := hb.size
    clear hown hrow hb hsz
    rcases Nat.lt_or_ge n 32 with h8 | h8
    · have hlt : ((n : Int) < 32) = True := eq_true (by omega)
      have HOa := Aside0.mk (HOW.out.alloc (.cells #[.int .u8 102] 5))
      have HRa := Aside0.mk (HR.out.alloc (.cells #[.int .u8 102] 5))
      have HBa := Aside0.mk (HB.out.alloc hbs (.cells #[.int .u8 102] 5))
      go_wp2_with (refine step_append HOa.out (NumsAt.one .u8 _ 102 _) Tryd.underlying25 info8p rfl rfl rfl rfl rfl (fun e => by cases e) (by unfold maxLen; omega) (by omega) (by simp; omega) ?_; intro v5 w5 ho5 hg5 _ _; have HO5 := Aside0.mk ho5; have HG5 := Aside0.mk hg5; clear ho5 hg5)
      have hown2 := HOa.out.lt
      have HB5 := Aside0.mk (grown_bel HBa.out HG5.out (by simp; omega) (fun b e => by have := (hown2 b e).1; omega))
      have HR5 : Aside0 (Row w5 w.heap.size .i64 64 (fun _ => 0) 52) := ⟨(HG5.out.block w.heap.size HRa.out.lt (fun e => by have := (hown2 _ e.symm).1; omega)).trans HRa.out⟩
      have HS5 : Aside0 (w.heap.size + 1 ≤ w5.heap.size) := ⟨Nat.succ_le_of_lt HR5.out.lt⟩
      have HO6 : Aside0 (OwnB w5 (w.heap.size + 1) v5 (n + 1) bbz) := ⟨HO5.out.congr (fun j hj => by
        by_cases h : j < n
        · rw [if_pos h]
        · rw [if_neg h]; unfold bbz; rw [if_neg (by omega)])⟩
      clear HO5 HG5 HRa HBa HOa HOW HR HB HSZ
      obtain ⟨x5, c5, rfl⟩ := HO6.out.form
      refine ⟨⟨n + 1, by omega, by omega, HO6.out, HR5.out, HB5.out, HS5.out⟩, ?_⟩
      show 32 - (n + 1) < 32 - n
      omega
    · obtain rfl : n = 32 := by omega
      have hcv := OwnB.str HOW.out (by omega)
      rw [bbz_str] at hcv
      obtain ⟨X, hX⟩ : ∃ X, decRP (bBf 32) = X := ⟨_, rfl⟩
      obtain ⟨r, hr⟩ : ∃ r, decROk (bBf 32) = r := ⟨_, rfl⟩
      have HD : Aside0 (∀ w', Calls Tryd.prog 28 #[.string (sOf (bBf 32))] w' fun e w'' => e = .returned (.tuple #[.agg (FR .i64 64 X), .bool r]) ∧ Below w'.heap.size w' w'') := ⟨fun w' => by rw [← hX, ← hr]; exact decode_pr _ w' (bBf_By 32)⟩
      generalize sOf (bBf 32) = s at *
      go_wp2_with fail
      refine (HD.out _).mono ?_
      rintro e w7 ⟨rfl, hb7⟩
      have HB7 := Aside0.mk (HB.out.trans (hb7.mono HB.out.size))
      have HR7 := Aside0.mk (HR.out.below hb7 HR.out.lt)
      have HS7 : Aside0 (w.heap.size + 1 ≤ w7.heap.size) := ⟨Nat.le_trans HSZ.out hb7.size⟩
      clear hb7 HB HR HSZ HOW HD
      have HN8 := Aside0.mk (Row.new w7 .i64 64 (fun _ => 0) 52)
      have HR8 := Aside0.mk (HR7.out.alloc (.cells (FR .i64 64 fun _ => 0) 52))
      have hs7 := HB7.out.size
      have HB8 := Aside0.mk (HB7.out.alloc hs7 (.cells (FR .i64 64 fun _ => 0) 52))
      have hne : w.heap.size ≠ w7.heap.size := by have := HS7.out; omega
      go_wp2_with (first
        | (refine zP X HN8.out infoPr2 rfl rfl rfl rfl rfl ?_; intro w9 hs9 hr9; have HS9 := Aside0.mk hs9; have HN9 := Aside0.mk hr9; have HR9 := Aside0.mk (HR8.out.stored hs9 hne); clear hs9 hr9)
        | refine zU HN9.out Tryd.underlying52 infoPr2 rfl rfl rfl rfl ?_
        | (refine zP X HR9.out infoPr2 rfl rfl rfl rfl rfl ?_; intro w11 hs hr; have HS11 := Aside0.mk hs; have HR11 := Aside0.mk hr; clear hs hr))
      refine bodyPost_ret (zX rfl HR11.out rfl Tryd.underlying52 rfl infoPr2) rfl ?_
      exact ⟨by rw [hX], HS11.out.bel _ _ (Nat.le_refl _) (HS9.out.bel _ _ hs7 HB8.out)⟩
end Go.Proofs.YtbmnkchcekacfaaDoor.P.Dg
end

section
namespace Go.Proofs.YtbmnkchcekacfaaDoor.P
set_option linter.unusedVariables false
set_option linter.unusedSimpArgs false
open Go.RowKit Go.ChangeShapes Go.WideShapes Go.Proofs.YtbmnkchcekacfaaDoorW.PrintWords Go.Proofs.YtbmnkchcekacfaaDoorW.PrintLast Go.Proofs.YtbmnkchcekacfaaDoorW.PrintMore
open Go.Proofs.YtbmnkchcekacfaaDoor.P.Fd
theorem b_tmps {P : Program} {fn : Func} {R : Ending → World → Prop} {p q : Tmp} {a : Act} {w : World} {v v2 : Value} (h : fn.results = #[.tmp p, .tmp q]) (hd : a.defers = []) (hp : a.eval (.tmp p) = v) (hq : a.eval (.tmp q) = v2) (hR : R (.returned (.tuple #[v, v2])) w) : bodyPost P fn R .ret a w := by
  have hp' : a.tmps[p]?.getD undef = v := by have hp2 : a.tmps.getD p undef = v := hp; simpa using hp2
  have hq' : a.tmps[q]?.getD undef = v2 := by have hp2 : a.tmps.getD q undef = v2 := hq; simpa using hp2
  exact ⟨hd, _, by simp [results, h, hp', hq'], hR⟩
theorem rem8_run {x : Int} (hx : 0 ≤ x) (w : World) (p q : Operand) : (do eqGuard .rem 5 p q (.int .u8 x) (.int .u8 8); binOp .rem 5 (.int .u8 x) (.int .u8 8) : Sem Value).run Tryd.prog w = .ok (.int .u8 (x % 8)) w := by
  have e : x.tmod 8 = x % 8 := Int.tmod_eq_emod_of_nonneg hx
  go_simp
theorem rem64_run {x : Int} (hx : 0 ≤ x) (w : World) (p q : Operand) : (do eqGuard .rem 5 p q (.int .u8 x) (.int .u8 64); binOp .rem 5 (.int .u8 x) (.int .u8 64) : Sem Value).run Tryd.prog w = .ok (.int .u8 (x % 64)) w := by
  have e : x.tmod 64 = x % 64 := Int.tmod_eq_emod_of_nonneg hx
  go_simp
theorem sub8_run {a b s : Int} (h : a - b = s) (hs : 0 ≤ s ∧ s < 256) (w : World) (p q : Operand) : (do eqGuard .sub 5 p q (.int .u8 a) (.int .u8 b); binOp .sub 5 (.int .u8 a) (.int .u8 b) : Sem Value).run Tryd.prog w = .ok (.int .u8 s) w := by
  subst h
  have e : IntKind.u8.wrap (a - b) = a - b := by show (a - b) % 256 = a - b; omega
  go_simp
  try exact e
theorem addc64_run {a s : Int} (h : a + 64 = s) (hs : 0 ≤ s ∧ s < 256) (w : World) (p q : Operand) : (do eqGuard .add 5 p q (.int .u8 a) (.int .u8 64); binOp .add 5 (.int .u8 a) (.int .u8 64) : Sem Value).run Tryd.prog w = .ok (.int .u8 s) w := by
  subst h
  have e : IntKind.u8.wrap (a + 64) = a + 64 := by show (a + 64) % 256 = a + 64; omega
  go_simp
  try exact e
theorem secA_doc {z D : Nat → Int} {F E : Int} (hD : Dg.dg z 32 = D) (hF : D 0 - D 0 % 8 = F) (hE : D 31 % 64 + 64 = E) : ∀ j, j < 32 → secA z j = cat2 (1 + 30) (cat2 1 (fun _ => F) (fun j => D (1 + j))) (fun _ => E) j := by
  have hb : ∀ j, 0 ≤ D j ∧ D j < 256 := fun j => by rw [← hD]; exact Dg.dg_b z 32 j
  have k1 : ∀ n : Fin 256, Go.bits .and .u8 (n.val : Int) 248 = (n.val : Int) - (n.val : Int) % 8 := by decide +kernel
  have k2 : ∀ n : Fin 256, Go.bits .or .u8 (Go.bits .and .u8 (n.val : Int) 127) 64 = (n.val : Int) % 64 + 64 := by decide +kernel
  have q1 : ∀ x : Int, 0 ≤ x ∧ x < 256 → Go.bits .and .u8 x 248 = x - x % 8 := fun x hx => by
    have := k1 ⟨x.toNat, by omega⟩
    simp only [Int.toNat_of_nonneg hx.1] at this
    exact this
  have q2 : ∀ x : Int, 0 ≤ x ∧ x < 256 → Go.bits .or .u8 (Go.bits .and .u8 x 127) 64 = x % 64 + 64 := fun x hx => by
    have := k2 ⟨x.toNat, by omega⟩
    simp only [Int.toNat_of_nonneg hx.1] at this
    exact this
  intro j hj
  unfold secA cat2
  rw [hD]
  have e31 : upd D 0 (Go.bits .and .u8 (D 0) 248) 31 = D 31 := if_neg (by decide)
  rw [e31, q2 _ (hb 31), q1 _ (hb 0), hE, hF]
  by_cases h1 : j < 1 + 30
  · rw [if_pos h1]
    show (if j = 31 then _ else (if j = 0 then _ else _)) = _
    rw [if_neg (by omega)]
    by_cases h2 : j < 1
    · rw [if_pos (by omega), if_pos h2]
    · rw [if_neg (by omega), if_neg h2]
      congr 1; omega
  · rw [if_neg h1]
    show (if j = 31 then _ else _) = _
    rw [if_pos (by omega)]
theorem base_rrep : RRep (decRP (bBf 32)) basePt := by
  obtain ⟨ok, e⟩ := dec_of (bBf_By 32) base_bytes
  rw [← e]
  exact dec_rrep (bBf_By 32) ok
theorem number_as {z R : Nat → Int} {n : Nat} (h : nmb z n = R) (w : World) (hn : n ≤ 100000) (hz : ∀ j, j < n → 0 ≤ z j ∧ z j < 256) : Calls Tryd.prog 30 #[.string (Dg.sN n z)] w fun e w' => e = .returned (.string (Dg.sN 32 R)) ∧ Below w.heap.size w w' := by rw [← h]; exact number_calls n z w hn hz
theorem mulRs_as {F z S : Nat → Int} (h : mulRP F z = S) (w : World) (hF : PR F) (hz : Fd.By z) : Calls Tryd.prog 22 #[.agg (FR .i64 64 F), .string (Dg.sN 32 z)] w fun e w' => e = .returned (.agg (FR .i64 64 S)) ∧ Below w.heap.size w w' := mulR_as h w hF hz
theorem bytesRs_as {F K : Nat → Int} (h : bytesRP F = K) (w : World) (hF : PR F) : Calls Tryd.prog 21 #[.agg (FR .i64 64 F)] w fun e w' => e = .returned (.string (Dg.sN 32 K)) ∧ Below w.heap.size w w' := by rw [← h]; exact bytes_pr F w hF
theorem refmul_as {f g c R : Nat → Int} (h : dig 256 ((N32 f * N32 g + N32 c) % LL) = R) (w : World) (hf : Fd.By f) (hg : Fd.By g) (hc : Fd.By c) :
    Calls Tryd.prog 34 #[.string (Dg.sN 32 f), .string (Dg.sN 32 g), .string (Dg.sN 32 c)] w fun e w' => e = .returned (.string (Dg.sN 32 R)) ∧ Below w.heap.size w w' := by
  have k : ∀ f : Nat → Int, Fd.By f → N32 (sB (sN 32 f)) = N32 f := fun f hf => val_congr 256 _ _ 32 (fun j hj => sB_sN 32 f hf j hj)
  have h2 := refmul_calls (sN 32 f) (sN 32 g) (sN 32 c) w (sN_size _ _) (sN_size _ _) (by rw [sN_size]; omega)
  rw [k f hf, k g hg, sN_val 32 c hc, show val 256 c 32 = N32 c from rfl, h] at h2
  exact h2
theorem cat2_b {f m : Nat → Int} {n l : Nat} (hf : ∀ j, j < n → 0 ≤ f j ∧ f j < 256) (hm : ∀ j, j < l → 0 ≤ m j ∧ m j < 256) : ∀ j, j < n + l → 0 ≤ cat2 n f m j ∧ cat2 n f m j < 256 := fun j hj => by
  unfold cat2
  split
  · exact hf j (by assumption)
  · exact hm _ (by omega)
theorem cat3_b {f g m : Nat → Int} {l : Nat} (hf : ∀ j, j < 32 → 0 ≤ f j ∧ f j < 256) (hg : ∀ j, j < 32 → 0 ≤ g j ∧ g j < 256) (hm : ∀ j, j < l → 0 ≤ m j ∧ m j < 256) : ∀ j, j < 64 + l → 0 ≤ cat3 f g m j ∧ cat3 f g m j < 256 := fun j hj => by
  unfold cat3
  split
  · exact hf j (by assumption)
  · split
    · exact hg _ (by omega)
    · exact hm _ (by omega)
theorem cat23 (f g m : Nat → Int) : cat2 64 (cat2 32 f g) m = cat3 f g m := by
  funext j
  unfold cat2 cat3
  by_cases h : j < 64
  · rw [if_pos h]
    by_cases h2 : j < 32
    · rw [if_pos h2, if_pos h2]
    · rw [if_neg h2, if_neg h2, if_pos h]
  · rw [if_neg h, if_neg (by omega), if_neg h]
theorem refbase_as {X : Nat → Int} (h : decRP (bBf 32) = X) (w : World) : Calls Tryd.prog 23 #[] w fun e w' => e = .returned (.agg (FR .i64 64 X)) ∧ Below w.heap.size w w' := by rw [← h]; exact refbase_calls w
theorem tabse_2 : rtab .any (opsOf Tryd.f20 2) = (true, [([], []), ([0], [0]), ([], []), ([2], [2]), ([3], [3]), ([1, 4], [1, 4]), ([5, 0, 1, 2, 3, 4, 5], [5])]) := by kernel_rfl
theorem bitsse_2 : zW [([], []), ([0], [0]), ([], []), ([2], [2]), ([3], [3]), ([1, 4], [1, 4]), ([5, 0, 1, 2, 3, 4, 5], [5])] [0, 1, 0, 4, 12, 31, 63] = true := by kernel_rfl
theorem tabse_4 : rtab .any (opsOf Tryd.f20 4) = (true, [([], []), ([0], [0]), ([1], [1]), ([], []), ([3], [3]), ([2, 4], [2, 4]), ([], []), ([6], [6]), ([7], [7]), ([5, 8], [5, 8]), ([], []), ([10], [10]), ([9, 0, 1, 2, 3, 4, 5, 6, 7, 8, 9], [9]), ([11, 12, 0, 1, 2, 3, 4, 5, 6, 7, 8, 9, 10, 11, 12], [11])]) := by kernel_rfl
theorem bitsse_4 : zW [([], []), ([0], [0]), ([1], [1]), ([], []), ([3], [3]), ([2, 4], [2, 4]), ([], []), ([6], [6]), ([7], [7]), ([5, 8], [5, 8]), ([], []), ([10], [10]), ([9, 0, 1, 2, 3, 4, 5, 6, 7, 8, 9], [9]), ([11, 12, 0, 1, 2, 3, 4, 5, 6, 7, 8, 9, 10, 11, 12], [11])] [0, 1, 3, 0, 8, 31, 0, 64, 192, 511, 0, 1024, 1023, 8191] = true := by kernel_rfl
theorem secret_calls (z : Nat → Int) (w : World) (hz : Fd.By z) : Calls Tryd.prog 20 #[.string (Dg.sN 32 z)] w fun e w' => e = .returned (.tuple #[.string (Dg.sN 32 (secA z)), .string (Dg.sN 32 (prefP z))]) ∧ Below w.heap.size w w' := by
  obtain ⟨D, hD⟩ : ∃ D, Dg.dg z 32 = D := ⟨_, rfl⟩
  have hDB : ∀ j, j < 64 → 0 ≤ D j ∧ D j < 256 := fun j _ => by rw [← hD]; exact Dg.dg_b z 32 j
  obtain ⟨F, hF⟩ : ∃ F, D 0 - D 0 % 8 = F := ⟨_, rfl⟩
  obtain ⟨E, hE⟩ : ∃ E, D 31 % 64 + 64 = E := ⟨_, rfl⟩
  have hD0 := hDB 0 (by decide)
  have hD31 := hDB 31 (by decide)
  obtain ⟨u1, hu1⟩ : ∃ u, Dg.sN 1 (fun _ => F) ++ Dg.sN 30 (fun j => D (1 + j)) = u := ⟨_, rfl⟩
  obtain ⟨u2, hu2⟩ : ∃ u, u1 ++ Dg.sN 1 (fun _ => E) = u := ⟨_, rfl⟩
  have hz1 : u1.size = 31 := by rw [← hu1, sN_app, sN_size']
  have e2 : Dg.sN 32 (secA z) = u2 := by rw [← hu2, ← hu1, sN_app, sN_app]; exact sN_congr (secA_doc hD hF hE)
  have e3 : Dg.sN 32 (prefP z) = Dg.sN 32 (fun j => (D) (32 + j)) := by rw [← hD]; rfl
  rw [e2, e3]
  refine enter_ 32 Tryd.func20 rfl rfl (fun a0 hS => ?_)
  have HS0 : Sl a0 32 [(0, .string (Dg.sN 32 z))] := hS
  have HH0 : Held w w [] := Held.first w
  clear hS
  refine wp_seq ?_
  have hLo : LOk [(0, 2, .val (.string ⟨#[]⟩)), (1, 3, .val (.string ⟨#[]⟩))] := lok rfl rfl
  refine zJ (wE := w) (sz := 32) (n := 2) [0, 1] [(0, .val (.string (Dg.sN 32 (z))))] _ [] rfl (by rfl) HH0 rfl rfl hLo rfl HS0 (slS 0 rfl rfl (trivial)) ?_ ?_
  · show ∀ i ∈ [0, 1], _
    refine zA (zC 0 _ rfl rfl hLo rfl rfl (fun _ _ _ _ => rfl) (fun b G w hb ho => zF (.inr rfl) (rfl))) ?_
    refine zA (zC 1 _ rfl rfl hLo rfl rfl (fun _ _ _ _ => rfl) (fun b G w hb ho => zF (.inr rfl) (rfl))) ?_
    exact zE
  clear hLo
  intro G a1 w1 hS hH
  have HS1 : Sl a1 32 [(0, .string (Dg.sN 32 (z)))] := hS
  have HH1 : Held w w1 [] := hH
  clear hS hH HS0 HH0
  refine then_ ?_
  refine wp_seq (wp_region_list ?_)
  refine l_run rfl rfl HS1 rfl rfl (zF (.inl rfl) (HS1.get 0 rfl)) (fun b2 HT2 => ?_)
  obtain ⟨v3, c3, hcv, hb3, hnum⟩ := conv_sN 32 z hz w1
  refine l_run rfl rfl HT2 rfl rfl (exec_convertW rfl (HT2.get 0 rfl) hcv) (fun b3 HT3 => ?_)
  have hof := Dg.refof_calls z _ 32 c3 v3 hnum (fun e => (by cases e)) (by omega) hz
  rw [hD] at hof
  refine l_call #[.slice (some ⟨w1.heap.size, 0, none⟩) 32 c3] rfl rfl rfl HT3 rfl rfl Tryd.func42 rfl rfl (args1 (HT3.get 0 rfl)) hof (fun b4 v4 hb4 HT4 => ?_)
  refine l_run (t := 4) rfl rfl HT4 rfl rfl (zF (.inr rfl) (HT4.get 0 rfl)) (fun b5 HT5 => ?_)
  refine wpList_nil (then_ ?_)
  have HSx : Sl b5 32 [(4, .string (Dg.sN 64 (D)))] := sl_tell HT5 (by simp)
  have HHx : Held w v4 [] := ⟨(HH1.1.trans (hb3.mono HH1.1.size)).trans (hb4.mono (HH1.1.trans (hb3.mono HH1.1.size)).size), fun _ h => (by cases h), List.nodup_nil⟩
  clear HT2 HT3 HT4 HT5 hnum hcv hof HS1 HH1
  refine wp_seq ?_
  have hLo : LOk [(0, 10, .val (.string (Dg.sN 64 (D)))), (1, 11, .val (.int .u8 ((D) 0))), (2, 12, .val (.string (Dg.sN 64 (D)))), (3, 13, .val (.int .u8 ((D) 0))), (4, 14, .val (.int .u8 (D 0 % 8))), (5, 15, .val (.int .u8 F)), (6, 5, .val (.int .u8 F))] := lok rfl rfl
  refine yJ (wE := w) (sz := 32) (n := 7) (B := [0, 1, 0, 4, 12, 31, 63]) [0, 1, 2, 3, 4, 5, 6] [(4, .val (.string (Dg.sN 64 (D)))), (5, .val (.int .u8 F))] _ [] (by rfl) rfl tabse_2 bitsse_2 (by kernel_rfl) (by kernel_rfl) HHx rfl rfl hLo rfl HSx (slS 0 rfl rfl (slL 6 (d := 6) rfl (trivial))) ?_ ?_
  · show ∀ i ∈ [0, 1, 2, 3, 4, 5, 6], _
    refine zA (zC 0 _ rfl rfl hLo rfl rfl (fun _ _ _ _ => rfl) (fun b G w hb ho => zF (.inl rfl) (zD rfl (HSx.get 0 rfl)))) ?_
    refine zA (zC 1 _ rfl rfl hLo rfl rfl (fun _ _ _ _ => rfl) (fun b G w hb ho => exec_index rfl (zB hLo 0 rfl HSx.1 rfl (hb 0 (by rfl))) rfl (index_sN (k := 0) hDB (by decide) _))) ?_
    refine zA (zC 2 _ rfl rfl hLo rfl rfl (fun _ _ _ _ => rfl) (fun b G w hb ho => zF (.inl rfl) (zD rfl (HSx.get 0 rfl)))) ?_
    refine zA (zC 3 _ rfl rfl hLo rfl rfl (fun _ _ _ _ => rfl) (fun b G w hb ho => exec_index rfl (zB hLo 2 rfl HSx.1 rfl (hb 2 (by rfl))) rfl (index_sN (k := 0) hDB (by decide) _))) ?_
    refine zA (zC 4 _ rfl rfl hLo rfl rfl (fun _ _ _ _ => rfl) (fun b G w hb ho => zQ rfl (zB hLo 3 rfl HSx.1 rfl (hb 3 (by rfl))) (rfl) (rem8_run hD0.1 _ _ _))) ?_
    refine zA (zC 5 _ rfl rfl hLo rfl rfl (fun _ _ _ _ => rfl) (fun b G w hb ho => zQ rfl (zB hLo 1 rfl HSx.1 rfl (hb 1 (by rfl))) (zB hLo 4 rfl HSx.1 rfl (hb 4 (by rfl))) (sub8_run hF (by omega) _ _ _))) ?_
    refine zA (zC 6 _ rfl rfl hLo rfl rfl (fun _ _ _ _ => rfl) (fun b G w hb ho => zF (.inr rfl) (zB hLo 5 rfl HSx.1 rfl (hb 5 (by rfl))))) ?_
    exact zE
  clear hLo
  intro G a2 w2 hS hH
  have HS2 : Sl a2 32 [(4, .string (Dg.sN 64 (D))), (5, .int .u8 F)] := hS
  have HH2 : Held w w2 [] := hH
  clear hS hH HSx HHx
  refine then_ ?_
  refine wp_seq ?_
  have hLo : LOk [(0, 16, .val (.string (Dg.sN 64 (D)))), (1, 17, .val (.int .u8 ((D) 31))), (2, 18, .val (.int .u8 (D 31 % 64))), (3, 19, .val (.int .u8 E)), (4, 6, .val (.int .u8 E))] := lok rfl rfl
  refine zJ (wE := w) (sz := 32) (n := 5) [0, 1, 3, 7, 15] [(4, .val (.string (Dg.sN 64 (D)))), (5, .val (.int .u8 F)), (6, .val (.int .u8 E))] _ [] rfl (by rfl) HH2 rfl rfl hLo rfl HS2 (slS 0 rfl rfl (slS 1 rfl rfl (slL 4 (d := 4) rfl (trivial)))) ?_ ?_
  · show ∀ i ∈ [0, 1, 2, 3, 4], _
    refine zA (zC 0 _ rfl rfl hLo rfl rfl (fun _ _ _ _ => rfl) (fun b G w hb ho => zF (.inl rfl) (zD rfl (HS2.get 0 rfl)))) ?_
    refine zA (zC 1 _ rfl rfl hLo rfl rfl (fun _ _ _ _ => rfl) (fun b G w hb ho => exec_index rfl (zB hLo 0 rfl HS2.1 rfl (hb 0 (by rfl))) rfl (index_sN (k := 31) hDB (by decide) _))) ?_
    refine zA (zC 2 _ rfl rfl hLo rfl rfl (fun _ _ _ _ => rfl) (fun b G w hb ho => zQ rfl (zB hLo 1 rfl HS2.1 rfl (hb 1 (by rfl))) (rfl) (rem64_run hD31.1 _ _ _))) ?_
    refine zA (zC 3 _ rfl rfl hLo rfl rfl (fun _ _ _ _ => rfl) (fun b G w hb ho => zQ rfl (zB hLo 2 rfl HS2.1 rfl (hb 2 (by rfl))) (rfl) (addc64_run hE (by omega) _ _ _))) ?_
    refine zA (zC 4 _ rfl rfl hLo rfl rfl (fun _ _ _ _ => rfl) (fun b G w hb ho => zF (.inr rfl) (zB hLo 3 rfl HS2.1 rfl (hb 3 (by rfl))))) ?_
    exact zE
  clear hLo
  intro G a3 w3 hS hH
  have HS3 : Sl a3 32 [(4, .string (Dg.sN 64 (D))), (5, .int .u8 F), (6, .int .u8 E)] := hS
  have HH3 : Held w w3 [] := hH
  clear hS hH HS2 HH2
  refine then_ ?_
  refine wp_seq ?_
  have hLo : LOk [(0, 20, .val (.int .u8 F)), (1, 21, .sl 1 1 1), (2, 22, .val (.string (Dg.sN 1 (fun _ => F)))), (3, 23, .val (.string (Dg.sN 64 (D)))), (4, 24, .val (.string (Dg.sN 30 (fun j => (D) (1 + j))))), (5, 25, .val (.string u1)), (6, 26, .val (.int .u8 E)), (7, 27, .sl 7 1 1), (8, 28, .val (.string (Dg.sN 1 (fun _ => E)))), (9, 29, .val (.string u2)), (10, 30, .val (.string (Dg.sN 64 (D)))), (11, 31, .val (.string (Dg.sN 32 (fun j => (D) (32 + j))))), (12, 2, .val (.string u2)), (13, 3, .val (.string (Dg.sN 32 (fun j => (D) (32 + j)))))] := lok rfl rfl
  refine yJ (wE := w) (sz := 32) (n := 14) (B := [0, 1, 3, 0, 8, 31, 0, 64, 192, 511, 0, 1024, 1023, 8191]) [0, 1, 2, 3, 4, 5, 6, 7, 8, 9, 10, 11, 12, 13] [(2, .val (.string u2)), (3, .val (.string (Dg.sN 32 (fun j => (D) (32 + j)))))] _ [⟨0, some 1, none, .u8, 1, fun _ => F, fun _ => F, 5⟩, ⟨0, some 7, none, .u8, 1, fun _ => E, fun _ => E, 5⟩] (by rfl) rfl tabse_4 bitsse_4 (by kernel_rfl) (by kernel_rfl) HH3 rfl rfl hLo rfl HS3 (slL 12 (d := 12) rfl (slL 13 (d := 13) rfl (trivial))) ?_ ?_
  · show ∀ i ∈ [0, 1, 2, 3, 4, 5, 6, 7, 8, 9, 10, 11, 12, 13], _
    refine zA (zC 0 _ rfl rfl hLo rfl rfl (fun _ _ _ _ => rfl) (fun b G w hb ho => zF (.inl rfl) (zD rfl (HS3.get 1 rfl)))) ?_
    refine zA (zK 1 0 .u8 1 5 none _ _ rfl rfl (fun _ _ _ _ => rfl) rfl hLo rfl rfl rfl rfl (by rfl) (fun b G w hb ho => exec_buildSlice rfl (parts1 (zB hLo 0 rfl HS3.1 rfl (hb 0 (by rfl)))) (by kernel_rfl))) ?_
    refine zA (st_read 2 0 _ _ rfl rfl rfl hLo rfl rfl (fun _ _ _ _ => rfl) (by rfl) (by rfl) (fun b G w hb ho hr => exec_convert rfl (zB hLo 1 rfl HS3.1 rfl (hb 1 (by rfl))) (conv_slc hr (Nat.le_of_ble_eq_true rfl)))) ?_
    refine zA (zC 3 _ rfl rfl hLo rfl rfl (fun _ _ _ _ => rfl) (fun b G w hb ho => zF (.inl rfl) (zD rfl (HS3.get 0 rfl)))) ?_
    refine zA (zC 4 _ rfl rfl hLo rfl rfl (fun _ _ _ _ => rfl) (fun b G w hb ho => exec_slice rfl (zB hLo 3 rfl HS3.1 rfl (hb 3 (by rfl))) rfl rfl rfl (slice_sN 1 31 (by decide) (by decide) (by decide) (.inr rfl) (.inr rfl) _))) ?_
    refine zA (zC 5 _ rfl rfl hLo rfl rfl (fun _ _ _ _ => rfl) (fun b G w hb ho => zQ rfl (zB hLo 2 rfl HS3.1 rfl (hb 2 (by rfl))) (zB hLo 4 rfl HS3.1 rfl (hb 4 (by rfl))) (addS_run (by rw [sN_size', sN_size']; decide) hu1 _ _ _))) ?_
    refine zA (zC 6 _ rfl rfl hLo rfl rfl (fun _ _ _ _ => rfl) (fun b G w hb ho => zF (.inl rfl) (zD rfl (HS3.get 2 rfl)))) ?_
    refine zA (zK 7 1 .u8 1 5 none _ _ rfl rfl (fun _ _ _ _ => rfl) rfl hLo rfl rfl rfl rfl (by rfl) (fun b G w hb ho => exec_buildSlice rfl (parts1 (zB hLo 6 rfl HS3.1 rfl (hb 6 (by rfl)))) (by kernel_rfl))) ?_
    refine zA (st_read 8 1 _ _ rfl rfl rfl hLo rfl rfl (fun _ _ _ _ => rfl) (by rfl) (by rfl) (fun b G w hb ho hr => exec_convert rfl (zB hLo 7 rfl HS3.1 rfl (hb 7 (by rfl))) (conv_slc hr (Nat.le_of_ble_eq_true rfl)))) ?_
    refine zA (zC 9 _ rfl rfl hLo rfl rfl (fun _ _ _ _ => rfl) (fun b G w hb ho => zQ rfl (zB hLo 5 rfl HS3.1 rfl (hb 5 (by rfl))) (zB hLo 8 rfl HS3.1 rfl (hb 8 (by rfl))) (addS_run (by rw [hz1, sN_size']; decide) hu2 _ _ _))) ?_
    refine zA (zC 10 _ rfl rfl hLo rfl rfl (fun _ _ _ _ => rfl) (fun b G w hb ho => zF (.inl rfl) (zD rfl (HS3.get 0 rfl)))) ?_
    refine zA (zC 11 _ rfl rfl hLo rfl rfl (fun _ _ _ _ => rfl) (fun b G w hb ho => exec_slice rfl (zB hLo 10 rfl HS3.1 rfl (hb 10 (by rfl))) rfl rfl rfl (slice_sN 32 64 (by decide) (by decide) (by decide) (.inr rfl) (.inl ⟨rfl, rfl⟩) _))) ?_
    refine zA (zC 12 _ rfl rfl hLo rfl rfl (fun _ _ _ _ => rfl) (fun b G w hb ho => zF (.inr rfl) (zB hLo 9 rfl HS3.1 rfl (hb 9 (by rfl))))) ?_
    refine zA (zC 13 _ rfl rfl hLo rfl rfl (fun _ _ _ _ => rfl) (fun b G w hb ho => zF (.inr rfl) (zB hLo 11 rfl HS3.1 rfl (hb 11 (by rfl))))) ?_
    exact zE
  clear hLo
  intro G a4 w4 hS hH
  have HS4 : Sl a4 32 [(2, .string u2), (3, .string (Dg.sN 32 (fun j => (D) (32 + j))))] := hS
  have HH4 : Held w w4 [⟨(G 1), .u8, 1, fun _ => F, 5⟩, ⟨(G 7), .u8, 1, fun _ => E, 5⟩] := hH
  clear hS hH HS3 HH3
  generalize G 1 = g4_1 at HS4 HH4
  generalize G 7 = g4_7 at HS4 HH4
  refine then_ ?_
  refine wp_ret ?_
  repeat refine yD ?_
  exact b_tmps rfl HS4.2.1 (HS4.get 0 rfl) (HS4.get 1 rfl) ⟨rfl, HH4.1⟩
theorem secret_as {z A P : Nat → Int} (hA : secA z = A) (hP : prefP z = P) (w : World) (hz : Fd.By z) : Calls Tryd.prog 20 #[.string (Dg.sN 32 z)] w fun e w' => e = .returned (.tuple #[.string (Dg.sN 32 A), .string (Dg.sN 32 P)]) ∧ Below w.heap.size w w' := by rw [← hA, ← hP]; exact secret_calls z w hz
theorem refpublic_calls (z : Nat → Int) (w : World) (hz : Fd.By z) : Calls Tryd.prog 10 #[.string (Dg.sN 32 z)] w fun e w' => e = .returned (.string (Dg.sN 32 (pubK z))) ∧ Below w.heap.size w w' := by
  obtain ⟨A_z, hA_z⟩ : ∃ A, secA z = A := ⟨_, rfl⟩
  obtain ⟨P_z, hP_z⟩ : ∃ A, prefP z = A := ⟨_, rfl⟩
  have hAB_z : Fd.By A_z := by rw [← hA_z]; exact secA_By z
  have hPB_z : Fd.By P_z := by rw [← hP_z]; exact prefP_By z
  obtain ⟨K, hK⟩ : ∃ S : Nat → Int, ptB (Pt.mul fld (basePt) (NZ (A_z))) = S := ⟨_, rfl⟩
  have hKB : Fd.By K := by rw [← hK]; exact ptB_By _
  have eK : pubK z = K := by rw [← hK, ← hA_z]; rfl
  rw [eK]
  obtain ⟨BR, hBR, rBR⟩ : ∃ S, decRP (bBf 32) = S ∧ RRep S basePt := ⟨_, rfl, base_rrep⟩
  refine enter_ 14 Tryd.func10 rfl rfl (fun a0 hS => ?_)
  have HS0 : Sl a0 14 [(0, .string (Dg.sN 32 z))] := hS
  have HH0 : Held w w [] := Held.first w
  clear hS
  refine wp_seq ?_
  have hLo : LOk [(0, 2, .val (.string ⟨#[]⟩))] := lok rfl rfl
  refine zJ (wE := w) (sz := 14) (n := 1) [0] [(0, .val (.string (Dg.sN 32 (z))))] _ [] rfl (by rfl) HH0 rfl rfl hLo rfl HS0 (slS 0 rfl rfl (trivial)) ?_ ?_
  · show ∀ i ∈ [0], _
    refine zA (zC 0 _ rfl rfl hLo rfl rfl (fun _ _ _ _ => rfl) (fun b G w hb ho => zF (.inr rfl) (rfl))) ?_
    exact zE
  clear hLo
  intro G a1 w1 hS hH
  have HS1 : Sl a1 14 [(0, .string (Dg.sN 32 (z)))] := hS
  have HH1 : Held w w1 [] := hH
  clear hS hH HS0 HH0
  refine then_ ?_
  refine wp_seq ?_
  have hLo : LOk [(0, 6, .val (.string (Dg.sN 32 (z)))), (1, 7, .val (.tuple #[.string (Dg.sN 32 (A_z)), .string (Dg.sN 32 (P_z))])), (2, 5, .val (.tuple #[.string (Dg.sN 32 (A_z)), .string (Dg.sN 32 (P_z))])), (3, 8, .val (.string (Dg.sN 32 (A_z)))), (4, 9, .val (.string (Dg.sN 32 (P_z)))), (5, 3, .val (.string (Dg.sN 32 (A_z)))), (6, 4, .val (.string (Dg.sN 32 (P_z))))] := lok rfl rfl
  refine zJ (wE := w) (sz := 14) (n := 7) [0, 1, 3, 7, 15, 31, 63] [(3, .val (.string (Dg.sN 32 (A_z))))] _ [] rfl (by rfl) HH1 rfl rfl hLo rfl HS1 (slL 5 (d := 5) rfl (trivial)) ?_ ?_
  · show ∀ i ∈ [0, 1, 2, 3, 4, 5, 6], _
    refine zA (zC 0 _ rfl rfl hLo rfl rfl (fun _ _ _ _ => rfl) (fun b G w hb ho => zF (.inl rfl) (zD rfl (HS1.get 0 rfl)))) ?_
    refine zA (zG 1 _ #[.string (Dg.sN 32 (z))] rfl rfl rfl (fun _ _ _ _ => rfl) hLo rfl rfl Tryd.func20 rfl rfl (fun b G hb ho => args1 (zB hLo 0 rfl HS1.1 rfl (hb 0 (by rfl)))) (fun w hw => secret_as hA_z hP_z w hz)) ?_
    refine zA (zC 2 _ rfl rfl hLo rfl rfl (fun _ _ _ _ => rfl) (fun b G w hb ho => zF (.inl rfl) (zB hLo 1 rfl HS1.1 rfl (hb 1 (by rfl))))) ?_
    refine zA (zC 3 _ rfl rfl hLo rfl rfl (fun _ _ _ _ => rfl) (fun b G w hb ho => exec_extract rfl (zB hLo 2 rfl HS1.1 rfl (hb 2 (by rfl))) (by rfl))) ?_
    refine zA (zC 4 _ rfl rfl hLo rfl rfl (fun _ _ _ _ => rfl) (fun b G w hb ho => exec_extract rfl (zB hLo 2 rfl HS1.1 rfl (hb 2 (by rfl))) (by rfl))) ?_
    refine zA (zC 5 _ rfl rfl hLo rfl rfl (fun _ _ _ _ => rfl) (fun b G w hb ho => zF (.inr rfl) (zB hLo 3 rfl HS1.1 rfl (hb 3 (by rfl))))) ?_
    refine zA (zC 6 _ rfl rfl hLo rfl rfl (fun _ _ _ _ => rfl) (fun b G w hb ho => zF (.inr rfl) (zB hLo 4 rfl HS1.1 rfl (hb 4 (by rfl))))) ?_
    exact zE
  clear hLo
  intro G a2 w2 hS hH
  have HS2 : Sl a2 14 [(3, .string (Dg.sN 32 (A_z)))] := hS
  have HH2 : Held w w2 [] := hH
  clear hS hH HS1 HH1
  refine then_ ?_
  obtain ⟨W1, hW1, rW1⟩ : ∃ S, mulRP BR (A_z) = S ∧ RRep S (Pt.mul fld (basePt) (NZ (A_z))) := ⟨_, rfl, rBR.mul hAB_z⟩
  refine wp_seq ?_
  have hLo : LOk [(0, 10, .val (.agg (FR .i64 64 (BR)))), (1, 11, .val (.string (Dg.sN 32 (A_z)))), (2, 12, .val (.agg (FR .i64 64 (W1)))), (3, 13, .val (.string (Dg.sN 32 (K)))), (4, 2, .val (.string (Dg.sN 32 (K))))] := lok rfl rfl
  refine zJ (wE := w) (sz := 14) (n := 5) [0, 1, 3, 7, 15] [(2, .val (.string (Dg.sN 32 (K))))] _ [] rfl (by rfl) HH2 rfl rfl hLo rfl HS2 (slL 4 (d := 4) rfl (trivial)) ?_ ?_
  · show ∀ i ∈ [0, 1, 2, 3, 4], _
    refine zA (zG 0 _ #[] rfl rfl rfl (fun _ _ _ _ => rfl) hLo rfl rfl Tryd.func23 rfl rfl (fun b G hb ho => args0 ) (fun w hw => refbase_as hBR w)) ?_
    refine zA (zC 1 _ rfl rfl hLo rfl rfl (fun _ _ _ _ => rfl) (fun b G w hb ho => zF (.inl rfl) (zD rfl (HS2.get 0 rfl)))) ?_
    refine zA (zG 2 _ #[.agg (FR .i64 64 (BR)), .string (Dg.sN 32 (A_z))] rfl rfl rfl (fun _ _ _ _ => rfl) hLo rfl rfl Tryd.func22 rfl rfl (fun b G hb ho => zV (zB hLo 0 rfl HS2.1 rfl (hb 0 (by rfl))) (zB hLo 1 rfl HS2.1 rfl (hb 1 (by rfl)))) (fun w hw => mulRs_as hW1 w rBR.1 hAB_z)) ?_
    refine zA (zG 3 _ #[.agg (FR .i64 64 (W1))] rfl rfl rfl (fun _ _ _ _ => rfl) hLo rfl rfl Tryd.func21 rfl rfl (fun b G hb ho => args1 (zB hLo 2 rfl HS2.1 rfl (hb 2 (by rfl)))) (fun w hw => bytesRs_as (rW1.bytes.trans hK) w rW1.1)) ?_
    refine zA (zC 4 _ rfl rfl hLo rfl rfl (fun _ _ _ _ => rfl) (fun b G w hb ho => zF (.inr rfl) (zB hLo 3 rfl HS2.1 rfl (hb 3 (by rfl))))) ?_
    exact zE
  clear hLo
  intro G a3 w3 hS hH
  have HS3 : Sl a3 14 [(2, .string (Dg.sN 32 (K)))] := hS
  have HH3 : Held w w3 [] := hH
  clear hS hH HS2 HH2
  refine then_ ?_
  refine wp_ret ?_
  repeat refine yD ?_
  exact b_tmp rfl HS3.2.1 (HS3.get 0 rfl) ⟨rfl, HH3.1⟩
theorem refpublic_as {z K : Nat → Int} (h : pubK z = K) (w : World) (hz : Fd.By z) : Calls Tryd.prog 10 #[.string (Dg.sN 32 z)] w fun e w' => e = .returned (.string (Dg.sN 32 K)) ∧ Below w.heap.size w w' := by rw [← h]; exact refpublic_calls z w hz
theorem refsign_calls (z : Nat → Int) (lm : Nat) (zm : Nat → Int) (w : World) (hz : Fd.By z) (hl : lm ≤ 2000) (hm : ∀ j, j < lm → 0 ≤ zm j ∧ zm j < 256) : Calls Tryd.prog 14 #[.string (Dg.sN 32 z), .string (Dg.sN lm zm)] w fun e w' => e = .returned (.string (Dg.sN 64 (sigV z lm zm))) ∧ Below w.heap.size w w' := by
  obtain ⟨A_z, hA_z⟩ : ∃ A, secA z = A := ⟨_, rfl⟩
  obtain ⟨P_z, hP_z⟩ : ∃ A, prefP z = A := ⟨_, rfl⟩
  have hAB_z : Fd.By A_z := by rw [← hA_z]; exact secA_By z
  have hPB_z : Fd.By P_z := by rw [← hP_z]; exact prefP_By z
  obtain ⟨K, hK⟩ : ∃ S : Nat → Int, ptB (Pt.mul fld (basePt) (NZ (A_z))) = S := ⟨_, rfl⟩
  have hKB : Fd.By K := by rw [← hK]; exact ptB_By _
  obtain ⟨n, hn⟩ : ∃ S : Nat → Int, nmb (cat2 32 P_z zm) (32 + lm) = S := ⟨_, rfl⟩
  have hnB : Fd.By n := by rw [← hn]; exact nmb_By _ _
  obtain ⟨R, hR⟩ : ∃ S : Nat → Int, ptB (Pt.mul fld (basePt) (NZ (n))) = S := ⟨_, rfl⟩
  have hRB : Fd.By R := by rw [← hR]; exact ptB_By _
  obtain ⟨k, hk⟩ : ∃ S : Nat → Int, nmb (cat3 R K zm) (64 + lm) = S := ⟨_, rfl⟩
  have hkB : Fd.By k := by rw [← hk]; exact nmb_By _ _
  obtain ⟨S, hS⟩ : ∃ S : Nat → Int, dig 256 ((N32 k * N32 A_z + N32 n) % LL) = S := ⟨_, rfl⟩
  have hSB : Fd.By S := by rw [← hS]; exact dig_By _
  have eV : sigV z lm zm = cat2 32 R S := sigV_eq hA_z hP_z hK hn hR hk hS
  rw [eV]
  have eK : pubK z = K := by rw [← hK, ← hA_z]; rfl
  obtain ⟨BR, hBR, rBR⟩ : ∃ S, decRP (bBf 32) = S ∧ RRep S basePt := ⟨_, rfl, base_rrep⟩
  refine enter_ 36 Tryd.func14 rfl rfl (fun a0 hS => ?_)
  have HS0 : Sl a0 36 [(0, .string (Dg.sN 32 z)), (1, .string (Dg.sN lm zm))] := hS
  have HH0 : Held w w [] := Held.first w
  clear hS
  refine wp_seq ?_
  have hLo : LOk [(0, 4, .val (.string ⟨#[]⟩))] := lok rfl rfl
  refine zJ (wE := w) (sz := 36) (n := 1) [0] [(0, .val (.string (Dg.sN 32 (z)))), (1, .val (.string (Dg.sN lm (zm))))] _ [] rfl (by rfl) HH0 rfl rfl hLo rfl HS0 (slS 0 rfl rfl (slS 1 rfl rfl (trivial))) ?_ ?_
  · show ∀ i ∈ [0], _
    refine zA (zC 0 _ rfl rfl hLo rfl rfl (fun _ _ _ _ => rfl) (fun b G w hb ho => zF (.inr rfl) (rfl))) ?_
    exact zE
  clear hLo
  intro G a1 w1 hS hH
  have HS1 : Sl a1 36 [(0, .string (Dg.sN 32 (z))), (1, .string (Dg.sN lm (zm)))] := hS
  have HH1 : Held w w1 [] := hH
  clear hS hH HS0 HH0
  refine then_ ?_
  refine wp_seq ?_
  have hLo : LOk [(0, 11, .val (.string (Dg.sN 32 (z)))), (1, 12, .val (.tuple #[.string (Dg.sN 32 (A_z)), .string (Dg.sN 32 (P_z))])), (2, 10, .val (.tuple #[.string (Dg.sN 32 (A_z)), .string (Dg.sN 32 (P_z))])), (3, 13, .val (.string (Dg.sN 32 (A_z)))), (4, 14, .val (.string (Dg.sN 32 (P_z)))), (5, 5, .val (.string (Dg.sN 32 (A_z)))), (6, 6, .val (.string (Dg.sN 32 (P_z))))] := lok rfl rfl
  refine zJ (wE := w) (sz := 36) (n := 7) [0, 1, 3, 7, 15, 31, 63] [(0, .val (.string (Dg.sN 32 (z)))), (1, .val (.string (Dg.sN lm (zm)))), (5, .val (.string (Dg.sN 32 (A_z)))), (6, .val (.string (Dg.sN 32 (P_z))))] _ [] rfl (by rfl) HH1 rfl rfl hLo rfl HS1 (slS 0 rfl rfl (slS 1 rfl rfl (slL 5 (d := 5) rfl (slL 6 (d := 6) rfl (trivial))))) ?_ ?_
  · show ∀ i ∈ [0, 1, 2, 3, 4, 5, 6], _
    refine zA (zC 0 _ rfl rfl hLo rfl rfl (fun _ _ _ _ => rfl) (fun b G w hb ho => zF (.inl rfl) (zD rfl (HS1.get 0 rfl)))) ?_
    refine zA (zG 1 _ #[.string (Dg.sN 32 (z))] rfl rfl rfl (fun _ _ _ _ => rfl) hLo rfl rfl Tryd.func20 rfl rfl (fun b G hb ho => args1 (zB hLo 0 rfl HS1.1 rfl (hb 0 (by rfl)))) (fun w hw => secret_as hA_z hP_z w hz)) ?_
    refine zA (zC 2 _ rfl rfl hLo rfl rfl (fun _ _ _ _ => rfl) (fun b G w hb ho => zF (.inl rfl) (zB hLo 1 rfl HS1.1 rfl (hb 1 (by rfl))))) ?_
    refine zA (zC 3 _ rfl rfl hLo rfl rfl (fun _ _ _ _ => rfl) (fun b G w hb ho => exec_extract rfl (zB hLo 2 rfl HS1.1 rfl (hb 2 (by rfl))) (by rfl))) ?_
    refine zA (zC 4 _ rfl rfl hLo rfl rfl (fun _ _ _ _ => rfl) (fun b G w hb ho => exec_extract rfl (zB hLo 2 rfl HS1.1 rfl (hb 2 (by rfl))) (by rfl))) ?_
    refine zA (zC 5 _ rfl rfl hLo rfl rfl (fun _ _ _ _ => rfl) (fun b G w hb ho => zF (.inr rfl) (zB hLo 3 rfl HS1.1 rfl (hb 3 (by rfl))))) ?_
    refine zA (zC 6 _ rfl rfl hLo rfl rfl (fun _ _ _ _ => rfl) (fun b G w hb ho => zF (.inr rfl) (zB hLo 4 rfl HS1.1 rfl (hb 4 (by rfl))))) ?_
    exact zE
  clear hLo
  intro G a2 w2 hS hH
  have HS2 : Sl a2 36 [(0, .string (Dg.sN 32 (z))), (1, .string (Dg.sN lm (zm))), (5, .string (Dg.sN 32 (A_z))), (6, .string (Dg.sN 32 (P_z)))] := hS
  have HH2 : Held w w2 [] := hH
  clear hS hH HS1 HH1
  refine then_ ?_
  refine wp_seq ?_
  have hLo : LOk [(0, 15, .val (.string (Dg.sN 32 (P_z)))), (1, 16, .val (.string (Dg.sN lm (zm)))), (2, 17, .val (.string (Dg.sN (32 + lm) (cat2 32 P_z zm)))), (3, 18, .val (.string (Dg.sN 32 (n)))), (4, 7, .val (.string (Dg.sN 32 (n))))] := lok rfl rfl
  refine zJ (wE := w) (sz := 36) (n := 5) [0, 1, 3, 7, 15] [(0, .val (.string (Dg.sN 32 (z)))), (1, .val (.string (Dg.sN lm (zm)))), (5, .val (.string (Dg.sN 32 (A_z)))), (7, .val (.string (Dg.sN 32 (n))))] _ [] rfl (by rfl) HH2 rfl rfl hLo rfl HS2 (slS 0 rfl rfl (slS 1 rfl rfl (slS 2 rfl rfl (slL 4 (d := 4) rfl (trivial))))) ?_ ?_
  · show ∀ i ∈ [0, 1, 2, 3, 4], _
    refine zA (zC 0 _ rfl rfl hLo rfl rfl (fun _ _ _ _ => rfl) (fun b G w hb ho => zF (.inl rfl) (zD rfl (HS2.get 3 rfl)))) ?_
    refine zA (zC 1 _ rfl rfl hLo rfl rfl (fun _ _ _ _ => rfl) (fun b G w hb ho => zF (.inl rfl) (zD rfl (HS2.get 1 rfl)))) ?_
    refine zA (zC 2 _ rfl rfl hLo rfl rfl (fun _ _ _ _ => rfl) (fun b G w hb ho => zQ rfl (zB hLo 0 rfl HS2.1 rfl (hb 0 (by rfl))) (zB hLo 1 rfl HS2.1 rfl (hb 1 (by rfl))) (addS_run (by rw [sN_size', sN_size']; omega) (sN_app 32 lm P_z zm) _ _ _))) ?_
    refine zA (zG 3 _ #[.string (Dg.sN (32 + lm) (cat2 32 P_z zm))] rfl rfl rfl (fun _ _ _ _ => rfl) hLo rfl rfl Tryd.func30 rfl rfl (fun b G hb ho => args1 (zB hLo 2 rfl HS2.1 rfl (hb 2 (by rfl)))) (fun w hw => number_as hn w (by omega) (cat2_b hPB_z hm))) ?_
    refine zA (zC 4 _ rfl rfl hLo rfl rfl (fun _ _ _ _ => rfl) (fun b G w hb ho => zF (.inr rfl) (zB hLo 3 rfl HS2.1 rfl (hb 3 (by rfl))))) ?_
    exact zE
  clear hLo
  intro G a3 w3 hS hH
  have HS3 : Sl a3 36 [(0, .string (Dg.sN 32 (z))), (1, .string (Dg.sN lm (zm))), (5, .string (Dg.sN 32 (A_z))), (7, .string (Dg.sN 32 (n)))] := hS
  have HH3 : Held w w3 [] := hH
  clear hS hH HS2 HH2
  refine then_ ?_
  obtain ⟨W2, hW2, rW2⟩ : ∃ S, mulRP BR (n) = S ∧ RRep S (Pt.mul fld (basePt) (NZ (n))) := ⟨_, rfl, rBR.mul hnB⟩
  refine wp_seq ?_
  have hLo : LOk [(0, 19, .val (.agg (FR .i64 64 (BR)))), (1, 20, .val (.string (Dg.sN 32 (n)))), (2, 21, .val (.agg (FR .i64 64 (W2)))), (3, 22, .val (.string (Dg.sN 32 (R)))), (4, 8, .val (.string (Dg.sN 32 (R))))] := lok rfl rfl
  refine zJ (wE := w) (sz := 36) (n := 5) [0, 1, 3, 7, 15] [(0, .val (.string (Dg.sN 32 (z)))), (1, .val (.string (Dg.sN lm (zm)))), (5, .val (.string (Dg.sN 32 (A_z)))), (7, .val (.string (Dg.sN 32 (n)))), (8, .val (.string (Dg.sN 32 (R))))] _ [] rfl (by rfl) HH3 rfl rfl hLo rfl HS3 (slS 0 rfl rfl (slS 1 rfl rfl (slS 2 rfl rfl (slS 3 rfl rfl (slL 4 (d := 4) rfl (trivial)))))) ?_ ?_
  · show ∀ i ∈ [0, 1, 2, 3, 4], _
    refine zA (zG 0 _ #[] rfl rfl rfl (fun _ _ _ _ => rfl) hLo rfl rfl Tryd.func23 rfl rfl (fun b G hb ho => args0 ) (fun w hw => refbase_as hBR w)) ?_
    refine zA (zC 1 _ rfl rfl hLo rfl rfl (fun _ _ _ _ => rfl) (fun b G w hb ho => zF (.inl rfl) (zD rfl (HS3.get 3 rfl)))) ?_
    refine zA (zG 2 _ #[.agg (FR .i64 64 (BR)), .string (Dg.sN 32 (n))] rfl rfl rfl (fun _ _ _ _ => rfl) hLo rfl rfl Tryd.func22 rfl rfl (fun b G hb ho => zV (zB hLo 0 rfl HS3.1 rfl (hb 0 (by rfl))) (zB hLo 1 rfl HS3.1 rfl (hb 1 (by rfl)))) (fun w hw => mulRs_as hW2 w rBR.1 hnB)) ?_
    refine zA (zG 3 _ #[.agg (FR .i64 64 (W2))] rfl rfl rfl (fun _ _ _ _ => rfl) hLo rfl rfl Tryd.func21 rfl rfl (fun b G hb ho => args1 (zB hLo 2 rfl HS3.1 rfl (hb 2 (by rfl)))) (fun w hw => bytesRs_as (rW2.bytes.trans hR) w rW2.1)) ?_
    refine zA (zC 4 _ rfl rfl hLo rfl rfl (fun _ _ _ _ => rfl) (fun b G w hb ho => zF (.inr rfl) (zB hLo 3 rfl HS3.1 rfl (hb 3 (by rfl))))) ?_
    exact zE
  clear hLo
  intro G a4 w4 hS hH
  have HS4 : Sl a4 36 [(0, .string (Dg.sN 32 (z))), (1, .string (Dg.sN lm (zm))), (5, .string (Dg.sN 32 (A_z))), (7, .string (Dg.sN 32 (n))), (8, .string (Dg.sN 32 (R)))] := hS
  have HH4 : Held w w4 [] := hH
  clear hS hH HS3 HH3
  refine then_ ?_
  refine wp_seq ?_
  have hLo : LOk [(0, 23, .val (.string (Dg.sN 32 (R)))), (1, 24, .val (.string (Dg.sN 32 (z)))), (2, 25, .val (.string (Dg.sN 32 (K)))), (3, 26, .val (.string (Dg.sN 64 (cat2 32 R K)))), (4, 27, .val (.string (Dg.sN lm (zm)))), (5, 28, .val (.string (Dg.sN (64 + lm) (cat3 R K zm)))), (6, 29, .val (.string (Dg.sN 32 (k)))), (7, 9, .val (.string (Dg.sN 32 (k))))] := lok rfl rfl
  refine zJ (wE := w) (sz := 36) (n := 8) [0, 1, 3, 7, 15, 31, 63, 127] [(5, .val (.string (Dg.sN 32 (A_z)))), (7, .val (.string (Dg.sN 32 (n)))), (8, .val (.string (Dg.sN 32 (R)))), (9, .val (.string (Dg.sN 32 (k))))] _ [] rfl (by rfl) HH4 rfl rfl hLo rfl HS4 (slS 2 rfl rfl (slS 3 rfl rfl (slS 4 rfl rfl (slL 7 (d := 7) rfl (trivial))))) ?_ ?_
  · show ∀ i ∈ [0, 1, 2, 3, 4, 5, 6, 7], _
    refine zA (zC 0 _ rfl rfl hLo rfl rfl (fun _ _ _ _ => rfl) (fun b G w hb ho => zF (.inl rfl) (zD rfl (HS4.get 4 rfl)))) ?_
    refine zA (zC 1 _ rfl rfl hLo rfl rfl (fun _ _ _ _ => rfl) (fun b G w hb ho => zF (.inl rfl) (zD rfl (HS4.get 0 rfl)))) ?_
    refine zA (zG 2 _ #[.string (Dg.sN 32 (z))] rfl rfl rfl (fun _ _ _ _ => rfl) hLo rfl rfl Tryd.func10 rfl rfl (fun b G hb ho => args1 (zB hLo 1 rfl HS4.1 rfl (hb 1 (by rfl)))) (fun w hw => refpublic_as eK w hz)) ?_
    refine zA (zC 3 _ rfl rfl hLo rfl rfl (fun _ _ _ _ => rfl) (fun b G w hb ho => zQ rfl (zB hLo 0 rfl HS4.1 rfl (hb 0 (by rfl))) (zB hLo 2 rfl HS4.1 rfl (hb 2 (by rfl))) (addS_run (by rw [sN_size', sN_size']; decide) (show _ = Dg.sN 64 _ from sN_app 32 32 R K) _ _ _))) ?_
    refine zA (zC 4 _ rfl rfl hLo rfl rfl (fun _ _ _ _ => rfl) (fun b G w hb ho => zF (.inl rfl) (zD rfl (HS4.get 1 rfl)))) ?_
    refine zA (zC 5 _ rfl rfl hLo rfl rfl (fun _ _ _ _ => rfl) (fun b G w hb ho => zQ rfl (zB hLo 3 rfl HS4.1 rfl (hb 3 (by rfl))) (zB hLo 4 rfl HS4.1 rfl (hb 4 (by rfl))) (addS_run (by rw [sN_size', sN_size']; omega) ((sN_app 64 lm (cat2 32 R K) zm).trans (by rw [cat23])) _ _ _))) ?_
    refine zA (zG 6 _ #[.string (Dg.sN (64 + lm) (cat3 R K zm))] rfl rfl rfl (fun _ _ _ _ => rfl) hLo rfl rfl Tryd.func30 rfl rfl (fun b G hb ho => args1 (zB hLo 5 rfl HS4.1 rfl (hb 5 (by rfl)))) (fun w hw => number_as hk w (by omega) (cat3_b hRB hKB hm))) ?_
    refine zA (zC 7 _ rfl rfl hLo rfl rfl (fun _ _ _ _ => rfl) (fun b G w hb ho => zF (.inr rfl) (zB hLo 6 rfl HS4.1 rfl (hb 6 (by rfl))))) ?_
    exact zE
  clear hLo
  intro G a5 w5 hS hH
  have HS5 : Sl a5 36 [(5, .string (Dg.sN 32 (A_z))), (7, .string (Dg.sN 32 (n))), (8, .string (Dg.sN 32 (R))), (9, .string (Dg.sN 32 (k)))] := hS
  have HH5 : Held w w5 [] := hH
  clear hS hH HS4 HH4
  refine then_ ?_
  refine wp_seq ?_
  have hLo : LOk [(0, 30, .val (.string (Dg.sN 32 (R)))), (1, 31, .val (.string (Dg.sN 32 (k)))), (2, 32, .val (.string (Dg.sN 32 (A_z)))), (3, 33, .val (.string (Dg.sN 32 (n)))), (4, 34, .val (.string (Dg.sN 32 (S)))), (5, 35, .val (.string (Dg.sN 64 (cat2 32 R S)))), (6, 4, .val (.string (Dg.sN 64 (cat2 32 R S))))] := lok rfl rfl
  refine zJ (wE := w) (sz := 36) (n := 7) [0, 1, 3, 7, 15, 31, 63] [(4, .val (.string (Dg.sN 64 (cat2 32 R S))))] _ [] rfl (by rfl) HH5 rfl rfl hLo rfl HS5 (slL 6 (d := 6) rfl (trivial)) ?_ ?_
  · show ∀ i ∈ [0, 1, 2, 3, 4, 5, 6], _
    refine zA (zC 0 _ rfl rfl hLo rfl rfl (fun _ _ _ _ => rfl) (fun b G w hb ho => zF (.inl rfl) (zD rfl (HS5.get 2 rfl)))) ?_
    refine zA (zC 1 _ rfl rfl hLo rfl rfl (fun _ _ _ _ => rfl) (fun b G w hb ho => zF (.inl rfl) (zD rfl (HS5.get 3 rfl)))) ?_
    refine zA (zC 2 _ rfl rfl hLo rfl rfl (fun _ _ _ _ => rfl) (fun b G w hb ho => zF (.inl rfl) (zD rfl (HS5.get 0 rfl)))) ?_
    refine zA (zC 3 _ rfl rfl hLo rfl rfl (fun _ _ _ _ => rfl) (fun b G w hb ho => zF (.inl rfl) (zD rfl (HS5.get 1 rfl)))) ?_
    refine zA (zG 4 _ #[.string (Dg.sN 32 (k)), .string (Dg.sN 32 (A_z)), .string (Dg.sN 32 (n))] rfl rfl rfl (fun _ _ _ _ => rfl) hLo rfl rfl Tryd.func34 rfl rfl (fun b G hb ho => args3 (zB hLo 1 rfl HS5.1 rfl (hb 1 (by rfl))) (zB hLo 2 rfl HS5.1 rfl (hb 2 (by rfl))) (zB hLo 3 rfl HS5.1 rfl (hb 3 (by rfl)))) (fun w hw => refmul_as hS w hkB hAB_z hnB)) ?_
    refine zA (zC 5 _ rfl rfl hLo rfl rfl (fun _ _ _ _ => rfl) (fun b G w hb ho => zQ rfl (zB hLo 0 rfl HS5.1 rfl (hb 0 (by rfl))) (zB hLo 4 rfl HS5.1 rfl (hb 4 (by rfl))) (addS_run (by rw [sN_size', sN_size']; decide) (show _ = Dg.sN 64 _ from sN_app 32 32 R S) _ _ _))) ?_
    refine zA (zC 6 _ rfl rfl hLo rfl rfl (fun _ _ _ _ => rfl) (fun b G w hb ho => zF (.inr rfl) (zB hLo 5 rfl HS5.1 rfl (hb 5 (by rfl))))) ?_
    exact zE
  clear hLo
  intro G a6 w6 hS hH
  have HS6 : Sl a6 36 [(4, .string (Dg.sN 64 (cat2 32 R S)))] := hS
  have HH6 : Held w w6 [] := hH
  clear hS hH HS5 HH5
  refine then_ ?_
  refine wp_ret ?_
  repeat refine yD ?_
  exact b_tmp rfl HS6.2.1 (HS6.get 0 rfl) ⟨rfl, HH6.1⟩
theorem By_wf {f : Nat → Int} (h : ∀ i, i < 32 → (Lit.int .u8 (f i)).wf = true) : Fd.By f := fun j hj => u8b (h j hj)
def IsRowB (w : World) (a : Option Addr) (len cap : Nat) (zs : List Int) : Prop :=
  (a = none ∧ len = 0 ∧ cap = 0 ∧ zs = []) ∨ ∃ x, a = some x ∧ len ≤ cap ∧ cap ≤ maxLen ∧ zs.length = cap ∧ (∀ i, i < zs.length → w.cell? (x.add i) = some (.int .u8 (zs.getD i 0))) ∧ ∀ n ∈ zs, (Lit.int .u8 n).wf = true
theorem IsRowB.at {w : World} {a : Option Addr} {len cap : Nat} {zs : List Int} (h : IsRowB w a len cap zs) : NumsAt .u8 w a len (fun j => zs.getD j 0) ∧ (∀ j, j < len → 0 ≤ zs.getD j 0 ∧ zs.getD j 0 < 256) ∧ (a = none → cap = 0) := by
  rcases h with ⟨rfl, rfl, rfl, rfl⟩ | ⟨x, rfl, hle, hm, hz, hc, hw⟩
  · exact ⟨.inl ⟨rfl, rfl⟩, fun j hj => by omega, fun _ => rfl⟩
  · refine ⟨.inr ⟨x, rfl, fun j hj => hc j (by omega)⟩, fun j hj => u8b (hw _ ?_), fun e => by cases e⟩
    rw [List.getD_eq_getElem?_getD, List.getElem?_eq_getElem (by omega)]
    exact List.getElem_mem _
set_option maxRecDepth 16384 in
theorem conv_nums {w : World} {a : Option Addr} {n cap : Nat} {z : Nat → Int} (h : NumsAt .u8 w a n z) (hz : ∀ j, j < n → 0 ≤ z j ∧ z j < 256) : (convert 25 9 (.slice a n cap)).run Tryd.prog w = .ok (.string (Dg.sN n z)) w := by
  rcases h with ⟨rfl, rfl⟩ | ⟨x, rfl, h⟩
  · exact run_convert_bytes_nil w 25 5 Tryd.underlying25 Tryd.underlying5 0 cap 9 Tryd.underlying9
  · have hl : ((List.range n).map fun j => UInt8.ofNat (z j).toNat).length = n := by simp
    have hr := run_convert_bytes_back (P := Tryd.prog) w 25 9 5 x cap ((List.range n).map fun j => UInt8.ofNat (z j).toNat) Tryd.underlying25 Tryd.underlying5 Tryd.underlying9 (fun j hj => by
      have hj' : j < n := by rw [hl] at hj; exact hj
      rw [h j hj']
      have h3 := hz j hj'
      simp
      omega)
    rw [hl] at hr
    rw [hr]
    congr 2
    simp [Dg.sN, strOfNums]
theorem msg_of {w : World} {a : Option Addr} {len cap : Nat} {zs : List Int} (h : IsRowB w a len cap zs) (hl : len ≤ 1024) : ∀ w', Below w.heap.size w w' → Dg.Msg w' a len cap (fun j => zs.getD j 0) := by
  obtain ⟨h1, h2, h3⟩ := h.at
  intro w' hb
  exact ⟨h1.below hb h1.lt, h3, by omega, h2⟩
theorem gtr_run {x c : Int} {k : IntKind} {t : TypeId} {r : Bool} (h : decide (c < x) = r) (w : World) (p q : Operand) : (do eqGuard .gtr t p q (.int k x) (.int k c); binOp .gtr t (.int k x) (.int k c) : Sem Value).run Tryd.prog w = .ok (.bool r) w := by subst h; go_simp
theorem exec_len {o : Oper} {ev : Operand → Value} {w : World} {x : Operand} {a : Option Addr} {n c : Nat} (ho : o.op = .call { callee := .builtin .len, args := #[x], argTypes := #[25] }) (hx : ev x = .slice a n c) : (execOp ev o).run Tryd.prog w = .ok (.value (.int .i64 (n : Int))) w := by
  have hu := Tryd.underlying25
  unfold execOp
  simp only [ho, resolve, invoke, builtin, Builtin.len_, Sem.run_bind, Sem.run_pure, Result.andThen_ok, List.map_toArray, List.map_cons, List.map_nil, hx]
  go_simp
theorem sdF_By : Fd.By sdF := by
  have : ∀ j : Fin 32, 0 ≤ sdF j.val ∧ sdF j.val < 256 := by decide
  exact fun j hj => this ⟨j, hj⟩
theorem build_sd (w : World) : (Instr.build 22 #[(0, .int .u8 157), (1, .int .u8 97), (2, .int .u8 177), (3, .int .u8 157), (4, .int .u8 239), (5, .int .u8 253), (6, .int .u8 90), (7, .int .u8 96), (8, .int .u8 186), (9, .int .u8 132), (10, .int .u8 74), (11, .int .u8 244), (12, .int .u8 146), (13, .int .u8 236), (14, .int .u8 44), (15, .int .u8 196), (16, .int .u8 68), (17, .int .u8 73), (18, .int .u8 197), (19, .int .u8 105), (20, .int .u8 123), (21, .int .u8 50), (22, .int .u8 105), (23, .int .u8 25), (24, .int .u8 112), (25, .int .u8 59), (26, .int .u8 172), (27, .int .u8 3), (28, .int .u8 28), (29, .int .u8 174), (30, .int .u8 127), (31, .int .u8 96)]).run Tryd.prog w = .ok (.agg (FR .u8 32 sdF)) w := by kernel_rfl
theorem key_str : ((Dg.sN 4 (pubK sdF)).toList == (⟨#[215, 90, 152, 1]⟩ : ByteArray).toList) = true := by
  have e : Dg.sN 4 (pubK sdF) = ⟨#[215, 90, 152, 1]⟩ := by
    rw [sN_congr key_bytes]
    decide
  rw [e]; exact beq_self_eq_true _
theorem pub_as {z K : Nat → Int} (h : pubK z = K) (w : World) (hTd : Dg.Tab w) (hT : TabD w) (hz : Fd.By z) : Calls Tryd.prog 9 #[.agg (FR .u8 32 z)] w fun e w' => e = .returned (.agg (FR .u8 32 K)) ∧ Below w.heap.size w w' := by rw [← h]; exact public_calls z w hTd hT hz
theorem sig_as {z zm V : Nat → Int} {am : Option Addr} {lm cm : Nat} (h : sigV z lm zm = V) (w : World) (hTd : Dg.Tab w) (hT : TabD w) (hO : Ord w) (hz : Fd.By z) (hM : ∀ w', Below w.heap.size w w' → Dg.Msg w' am lm cm zm) : Calls Tryd.prog 13 #[.agg (FR .u8 32 z), .slice am lm cm] w fun e w' => e = .returned (.agg (FR .u8 64 V)) ∧ Below w.heap.size w w' := by rw [← h]; exact sign_calls z am lm cm zm w hTd hT hO hz hM
theorem refsig_as {z zm V : Nat → Int} {lm : Nat} (h : sigV z lm zm = V) (w : World) (hz : Fd.By z) (hl : lm ≤ 1024) (hm : ∀ j, j < lm → 0 ≤ zm j ∧ zm j < 256) : Calls Tryd.prog 14 #[.string (Dg.sN 32 z), .string (Dg.sN lm zm)] w fun e w' => e = .returned (.string (Dg.sN 64 V)) ∧ Below w.heap.size w w' := by rw [← h]; exact refsign_calls z lm zm w hz (by omega) hm
theorem msg_to {w1 w2 : World} {am : Option Addr} {lm cm : Nat} {zm : Nat → Int} (h : ∀ w', Below w1.heap.size w1 w' → Dg.Msg w' am lm cm zm) (h1 : Below w1.heap.size w1 w2) : ∀ w', Below w2.heap.size w2 w' → Dg.Msg w' am lm cm zm := fun w' hb => h w' (h1.trans (hb.mono h1.size))
theorem sigV_b (z : Nat → Int) (lm : Nat) (zm : Nat → Int) : ∀ j, j < 64 → 0 ≤ sigV z lm zm j ∧ sigV z lm zm j < 256 := cat2_b (n := 32) (l := 32) (ptB_By _) (dig_By _)
theorem str_self (s : ByteArray) : (s.toList == s.toList) = true := beq_self_eq_true _
theorem slc_32_0_4 (g : Nat) (w : World) : (Instr.sliceAt 22 (.pointer (some ⟨g, 0, none⟩)) none (some (.int .i64 4)) none).run Tryd.prog w = .ok (.slice (some ⟨g, 0, none⟩) 4 32) w := by kernel_rfl
theorem slc_64_0_64 (g : Nat) (w : World) : (Instr.sliceAt 28 (.pointer (some ⟨g, 0, none⟩)) none none none).run Tryd.prog w = .ok (.slice (some ⟨g, 0, none⟩) 64 64) w := by kernel_rfl
theorem tabls_6 : rtab .any (opsOf Tryd.f5 6) = (true, [([], []), ([0], [0]), ([], []), ([2], [2]), ([], []), ([4], [4]), ([3, 5], [3, 5]), ([1, 6], [1, 6]), ([7, 6, 0, 1, 2, 3, 4, 5, 6, 7], [7])]) := by kernel_rfl
theorem bitsls_6 : zW [([], []), ([0], [0]), ([], []), ([2], [2]), ([], []), ([4], [4]), ([3, 5], [3, 5]), ([1, 6], [1, 6]), ([7, 6, 0, 1, 2, 3, 4, 5, 6, 7], [7])] [0, 1, 0, 4, 0, 16, 60, 127, 255] = true := by kernel_rfl
theorem alive_calls (w : World) (hTd : Dg.Tab w) (hT : TabD w) : Calls Tryd.prog 8 #[] w fun e w' => e = .returned (.bool true) ∧ Below w.heap.size w w' := by
  have hz := sdF_By
  obtain ⟨K, hK⟩ : ∃ K, pubK sdF = K := ⟨_, rfl⟩
  have hKB : Fd.By K := by rw [← hK]; exact ptB_By _
  have hst := key_str
  rw [hK] at hst
  refine enter_ 9 Tryd.func8 rfl rfl (fun a0 hS => ?_)
  have HS0 : Sl a0 9 [] := hS
  have HH0 : Held w w [] := Held.first w
  clear hS
  refine wp_seq ?_
  have hLo : LOk [(0, 0, .val (.bool false))] := lok rfl rfl
  refine zJ (wE := w) (sz := 9) (n := 1) [0] [] _ [] rfl (by rfl) HH0 rfl rfl hLo rfl HS0 (trivial) ?_ ?_
  · show ∀ i ∈ [0], _
    refine zA (zC 0 _ rfl rfl hLo rfl rfl (fun _ _ _ _ => rfl) (fun b G w hb ho => zF (.inr rfl) (rfl))) ?_
    exact zE
  clear hLo
  intro G a1 w1 hS hH
  have HS1 : Sl a1 9 [] := hS
  have HH1 : Held w w1 [] := hH
  clear hS hH HS0 HH0
  refine then_ ?_
  refine wp_seq ?_
  have hLo : LOk [(0, 3, .val (.agg (FR .u8 32 (sdF)))), (1, 1, .ptr 1 0)] := lok rfl rfl
  refine zJ (wE := w) (sz := 9) (n := 3) [0, 1, 3] [(1, .ptr 1 0)] _ [⟨0, some 1, some 2, .u8, 32, fun _ => 0, sdF, 22⟩] rfl (by rfl) HH1 rfl rfl hLo rfl HS1 (slL 1 (d := 1) rfl (trivial)) ?_ ?_
  · show ∀ i ∈ [0, 1, 2], _
    refine zA (zC 0 _ rfl rfl hLo rfl rfl (fun _ _ _ _ => rfl) (fun b G w hb ho => yC rfl (by simp only [List.map_toArray, List.map_cons, List.map_nil]; rfl) (build_sd _))) ?_
    refine zA (zK 1 0 .u8 32 22 (some 2) _ _ rfl rfl (fun _ _ _ _ => rfl) rfl hLo rfl rfl rfl rfl (by rfl) (fun b G w _ _ => by kernel_rfl)) ?_
    refine zA (zI 0 _ rfl rfl rfl rfl rfl (fun _ _ _ _ => rfl) rfl rfl rfl (by rfl) infoB3 (fun b G hb ho => zB hLo 1 rfl HS1.1 rfl (hb 1 (by rfl))) (fun b G hb ho => zB hLo 0 rfl HS1.1 rfl (hb 0 (by rfl)))) ?_
    exact zE
  clear hLo
  intro G a2 w2 hS hH
  have HS2 : Sl a2 9 [(1, .pointer (some ⟨(G 1), 0, none⟩))] := hS
  have HH2 : Held w w2 [⟨(G 1), .u8, 32, sdF, 22⟩] := hH
  clear hS hH HS1 HH1
  generalize G 1 = g2_1 at HS2 HH2
  refine then_ ?_
  refine wp_seq ?_
  have hLo : LOk [(0, 4, .val (.agg (FR .u8 32 (sdF)))), (1, 5, .val (.agg (FR .u8 32 (K)))), (2, 2, .ptr 2 0)] := lok rfl rfl
  refine zJ (wE := w) (sz := 9) (n := 4) [0, 1, 3, 7] [(2, .ptr 2 0)] _ [⟨g2_1, none, none, .u8, 32, sdF, sdF, 22⟩, ⟨0, some 2, some 3, .u8, 32, fun _ => 0, K, 22⟩] rfl (by rfl) HH2 rfl rfl hLo rfl HS2 (slL 2 (d := 2) rfl (trivial)) ?_ ?_
  · show ∀ i ∈ [0, 1, 2, 3], _
    refine zA (zH 0 0 _ rfl rfl rfl rfl (fun _ _ _ _ => rfl) hLo rfl rfl rfl (by rfl) Tryd.underlying22 infoB3 rfl (fun b G hb ho => zD rfl (HS2.get 0 rfl))) ?_
    refine zA (zG 1 _ #[.agg (FR .u8 32 (sdF))] rfl rfl rfl (fun _ _ _ _ => rfl) hLo rfl rfl Tryd.func9 rfl rfl (fun b G hb ho => args1 (zB hLo 0 rfl HS2.1 rfl (hb 0 (by rfl)))) (fun w hw => pub_as hK w (hTd.to hw) (hT.to hw) hz)) ?_
    refine zA (zK 2 1 .u8 32 22 (some 3) _ _ rfl rfl (fun _ _ _ _ => rfl) rfl hLo rfl rfl rfl rfl (by rfl) (fun b G w _ _ => by kernel_rfl)) ?_
    refine zA (zI 1 _ rfl rfl rfl rfl rfl (fun _ _ _ _ => rfl) rfl rfl rfl (by rfl) infoB3 (fun b G hb ho => zB hLo 2 rfl HS2.1 rfl (hb 2 (by rfl))) (fun b G hb ho => zB hLo 1 rfl HS2.1 rfl (hb 1 (by rfl)))) ?_
    exact zE
  clear hLo
  intro G a3 w3 hS hH
  have HS3 : Sl a3 9 [(2, .pointer (some ⟨(G 2), 0, none⟩))] := hS
  have HH3 : Held w w3 [⟨g2_1, .u8, 32, sdF, 22⟩, ⟨(G 2), .u8, 32, K, 22⟩] := hH
  clear hS hH HS2 HH2
  generalize G 2 = g3_2 at HS3 HH3
  refine then_ ?_
  refine wp_seq ?_
  have hLo : LOk [(0, 6, .val (.slice (some ⟨g3_2, 0, none⟩) 4 32)), (1, 7, .val (.string (Dg.sN 4 (K)))), (2, 8, .val (.bool true)), (3, 0, .val (.bool true))] := lok rfl rfl
  refine zJ (wE := w) (sz := 9) (n := 4) [0, 1, 3, 7] [(0, .val (.bool true))] _ [⟨g2_1, none, none, .u8, 32, sdF, sdF, 22⟩, ⟨g3_2, none, none, .u8, 32, K, K, 22⟩] rfl (by rfl) HH3 rfl rfl hLo rfl HS3 (slL 3 (d := 3) rfl (trivial)) ?_ ?_
  · show ∀ i ∈ [0, 1, 2, 3], _
    refine zA (zC 0 _ rfl rfl hLo rfl rfl (fun _ _ _ _ => rfl) (fun b G w hb ho => exec_slice rfl (zD rfl (HS3.get 0 rfl)) rfl rfl rfl (slc_32_0_4 _ _))) ?_
    refine zA (st_read 1 1 _ _ rfl rfl rfl hLo rfl rfl (fun _ _ _ _ => rfl) (by rfl) (by rfl) (fun b G w hb ho hr => exec_convert rfl (zB hLo 0 rfl HS3.1 rfl (hb 0 (by rfl))) (conv_slc hr (Nat.le_of_ble_eq_true rfl)))) ?_
    refine zA (zC 2 _ rfl rfl hLo rfl rfl (fun _ _ _ _ => rfl) (fun b G w hb ho => zQ rfl (zB hLo 1 rfl HS3.1 rfl (hb 1 (by rfl))) (rfl) (eqS_run hst _ _ _))) ?_
    refine zA (zC 3 _ rfl rfl hLo rfl rfl (fun _ _ _ _ => rfl) (fun b G w hb ho => zF (.inr rfl) (zB hLo 2 rfl HS3.1 rfl (hb 2 (by rfl))))) ?_
    exact zE
  clear hLo
  intro G a4 w4 hS hH
  have HS4 : Sl a4 9 [(0, .bool true)] := hS
  have HH4 : Held w w4 [⟨g2_1, .u8, 32, sdF, 22⟩, ⟨g3_2, .u8, 32, K, 22⟩] := hH
  clear hS hH HS3 HH3
  refine then_ ?_
  refine wp_ret ?_
  repeat refine yD ?_
  exact b_tmp rfl HS4.2.1 (HS4.get 0 rfl) ⟨rfl, HH4.1⟩
theorem SignSigns_walk (z : Nat → Int) (am : Option Addr) (lm cm : Nat) (zs : List Int) (w : World) (hTT : Dg.Tab w ∧ TabD w ∧ Ord w) (w0 : ∀ i, i < 32 → (Lit.int .u8 (z i)).wf = true) (hin : IsRowB w am lm cm zs) (y1 : lm * 1 ≤ 140737488351232) : Calls Tryd.prog 5 #[.agg (FR .u8 32 z), .slice am lm cm] w fun e w' => e = .returned (.bool true) ∧ Below w.heap.size w w' := by
  obtain ⟨hTd, hT, hO⟩ := hTT
  obtain ⟨zm, hzm⟩ : ∃ zm, (fun j => zs.getD j 0) = zm := ⟨_, rfl⟩
  obtain ⟨r, hr⟩ : ∃ r, decide ((1024 : Int) < (lm : Int)) = r := ⟨_, rfl⟩
  have hz := By_wf w0
  obtain ⟨V, hV⟩ : ∃ V, sigV z lm zm = V := ⟨_, rfl⟩
  have hVB : ∀ j, j < 64 → 0 ≤ V j ∧ V j < 256 := by rw [← hV]; exact sigV_b z lm zm
  refine enter_ 22 Tryd.func5 rfl rfl (fun a0 hS => ?_)
  have HS0 : Sl a0 22 [(0, .agg (FR .u8 32 z)), (1, .slice am lm cm)] := hS
  have HH0 : Held w w [] := Held.first w
  clear hS
  refine wp_seq ?_
  have hLo : LOk [(0, 2, .ptr 0 0), (1, 4, .val (.bool false))] := lok rfl rfl
  refine zJ (wE := w) (sz := 22) (n := 2) [0, 1] [(1, .val (.slice am lm cm)), (2, .ptr 0 0)] _ [⟨0, some 0, none, .u8, 32, z, z, 22⟩] rfl (by rfl) HH0 rfl rfl hLo rfl HS0 (slS 1 rfl rfl (slL 0 (d := 0) rfl (trivial))) ?_ ?_
  · show ∀ i ∈ [0, 1], _
    refine zA (zK 0 0 .u8 32 22 none _ _ rfl rfl (fun _ _ _ _ => rfl) rfl hLo rfl rfl rfl rfl (by rfl) (fun b G w hb ho => exec_box rfl (zD rfl (HS0.get 0 rfl)) (by kernel_rfl))) ?_
    refine zA (zC 1 _ rfl rfl hLo rfl rfl (fun _ _ _ _ => rfl) (fun b G w hb ho => zF (.inr rfl) (rfl))) ?_
    exact zE
  clear hLo
  intro G a1 w1 hS hH
  have HS1 : Sl a1 22 [(1, .slice am lm cm), (2, .pointer (some ⟨(G 0), 0, none⟩))] := hS
  have HH1 : Held w w1 [⟨(G 0), .u8, 32, z, 22⟩] := hH
  clear hS hH HS0 HH0
  generalize G 0 = g1_0 at HS1 HH1
  refine then_ ?_
  refine wp_seq ?_
  refine wp_seq ?_
  have hLo : LOk [(0, 6, .val (.bool true)), (1, 7, .val (.bool false))] := lok rfl rfl
  refine zJ (wE := w) (sz := 22) (n := 2) [0, 1] [(1, .val (.slice am lm cm)), (2, .val (.pointer (some ⟨g1_0, 0, none⟩))), (7, .val (.bool false))] _ [⟨g1_0, none, none, .u8, 32, z, z, 22⟩] rfl (by rfl) HH1 rfl rfl hLo rfl HS1 (slS 0 rfl rfl (slS 1 rfl rfl (slL 1 (d := 1) rfl (trivial)))) ?_ ?_
  · show ∀ i ∈ [0, 1], _
    refine zA (zG 0 _ #[] rfl rfl rfl (fun _ _ _ _ => rfl) hLo rfl rfl Tryd.func8 rfl rfl (fun b G hb ho => args0 ) (fun w hw => alive_calls w (hTd.to hw) (hT.to hw))) ?_
    refine zA (zC 1 _ rfl rfl hLo rfl rfl (fun _ _ _ _ => rfl) (fun b G w hb ho => exec_un rfl (zB hLo 0 rfl HS1.1 rfl (hb 0 (by rfl))) (by rfl))) ?_
    exact zE
  clear hLo
  intro G a2 w2 hS hH
  have HS2 : Sl a2 22 [(1, .slice am lm cm), (2, .pointer (some ⟨g1_0, 0, none⟩)), (7, .bool false)] := hS
  have HH2 : Held w w2 [⟨g1_0, .u8, 32, z, 22⟩] := hH
  clear hS hH HS1 HH1
  refine then_ ?_
  refine wp_cond_false (HS2.get 2 rfl) ?_
  refine wp_skip ?_
  refine then_ ?_
  cases r
  · skip
    have hl : lm ≤ 1024 := by have := of_decide_eq_false hr; omega
    have hM := msg_of hin hl
    rw [hzm] at hM
    have hm := (hM w (Below.refl _ _)).2.2.2
    refine wp_seq ?_
    refine wp_seq ?_
    have hLo : LOk [(0, 8, .val (.slice am lm cm)), (1, 9, .val (.int .i64 (lm : Int))), (2, 10, .val (.bool false))] := lok rfl rfl
    refine zJ (wE := w) (sz := 22) (n := 3) [0, 1, 3] [(1, .val (.slice am lm cm)), (2, .val (.pointer (some ⟨g1_0, 0, none⟩))), (10, .val (.bool false))] _ [⟨g1_0, none, none, .u8, 32, z, z, 22⟩] rfl (by rfl) HH2 rfl rfl hLo rfl HS2 (slS 0 rfl rfl (slS 1 rfl rfl (slL 2 (d := 2) rfl (trivial)))) ?_ ?_
    · show ∀ i ∈ [0, 1, 2], _
      refine zA (zC 0 _ rfl rfl hLo rfl rfl (fun _ _ _ _ => rfl) (fun b G w hb ho => zF (.inl rfl) (zD rfl (HS2.get 0 rfl)))) ?_
      refine zA (zC 1 _ rfl rfl hLo rfl rfl (fun _ _ _ _ => rfl) (fun b G w hb ho => exec_len rfl (zB hLo 0 rfl HS2.1 rfl (hb 0 (by rfl))))) ?_
      refine zA (zC 2 _ rfl rfl hLo rfl rfl (fun _ _ _ _ => rfl) (fun b G w hb ho => zQ rfl (zB hLo 1 rfl HS2.1 rfl (hb 1 (by rfl))) (rfl) (gtr_run hr _ _ _))) ?_
      exact zE
    clear hLo
    intro G a3 w3 hS hH
    have HS3 : Sl a3 22 [(1, .slice am lm cm), (2, .pointer (some ⟨g1_0, 0, none⟩)), (10, .bool false)] := hS
    have HH3 : Held w w3 [⟨g1_0, .u8, 32, z, 22⟩] := hH
    clear hS hH HS2 HH2
    refine then_ ?_
    refine wp_cond_false (HS3.get 2 rfl) ?_
    refine wp_skip ?_
    refine then_ ?_
    refine wp_seq ?_
    have hLo : LOk [(0, 11, .val (.agg (FR .u8 32 (z)))), (1, 12, .val (.slice am lm cm)), (2, 13, .val (.agg (FR .u8 64 (V)))), (3, 5, .ptr 3 0)] := lok rfl rfl
    refine zJ (wE := w) (sz := 22) (n := 5) [0, 1, 3, 7, 15] [(1, .val (.slice am lm cm)), (2, .val (.pointer (some ⟨g1_0, 0, none⟩))), (5, .ptr 3 0)] _ [⟨g1_0, none, none, .u8, 32, z, z, 22⟩, ⟨0, some 3, some 4, .u8, 64, fun _ => 0, V, 28⟩] rfl (by rfl) HH3 rfl rfl hLo rfl HS3 (slS 0 rfl rfl (slS 1 rfl rfl (slL 3 (d := 3) rfl (trivial)))) ?_ ?_
    · show ∀ i ∈ [0, 1, 2, 3, 4], _
      refine zA (zH 0 0 _ rfl rfl rfl rfl (fun _ _ _ _ => rfl) hLo rfl rfl rfl (by rfl) Tryd.underlying22 infoB3 rfl (fun b G hb ho => zD rfl (HS3.get 1 rfl))) ?_
      refine zA (zC 1 _ rfl rfl hLo rfl rfl (fun _ _ _ _ => rfl) (fun b G w hb ho => zF (.inl rfl) (zD rfl (HS3.get 0 rfl)))) ?_
      refine zA (zG 2 _ #[.agg (FR .u8 32 (z)), .slice am lm cm] rfl rfl rfl (fun _ _ _ _ => rfl) hLo rfl rfl Tryd.func13 rfl rfl (fun b G hb ho => zV (zB hLo 0 rfl HS3.1 rfl (hb 0 (by rfl))) (zB hLo 1 rfl HS3.1 rfl (hb 1 (by rfl)))) (fun w hw => sig_as hV w (hTd.to hw) (hT.to hw) (hO.to hw) hz (msg_to hM hw))) ?_
      refine zA (zK 3 1 .u8 64 28 (some 4) _ _ rfl rfl (fun _ _ _ _ => rfl) rfl hLo rfl rfl rfl rfl (by rfl) (fun b G w _ _ => by kernel_rfl)) ?_
      refine zA (zI 1 _ rfl rfl rfl rfl rfl (fun _ _ _ _ => rfl) rfl rfl rfl (by rfl) infoB6 (fun b G hb ho => zB hLo 3 rfl HS3.1 rfl (hb 3 (by rfl))) (fun b G hb ho => zB hLo 2 rfl HS3.1 rfl (hb 2 (by rfl)))) ?_
      exact zE
    clear hLo
    intro G a4 w4 hS hH
    have HS4 : Sl a4 22 [(1, .slice am lm cm), (2, .pointer (some ⟨g1_0, 0, none⟩)), (5, .pointer (some ⟨(G 3), 0, none⟩))] := hS
    have HH4 : Held w w4 [⟨g1_0, .u8, 32, z, 22⟩, ⟨(G 3), .u8, 64, V, 28⟩] := hH
    clear hS hH HS3 HH3
    generalize G 3 = g4_3 at HS4 HH4
    refine then_ ?_
    refine wp_seq ?_
    have hLo : LOk [(0, 14, .val (.slice (some ⟨g4_3, 0, none⟩) 64 64)), (1, 15, .val (.string (Dg.sN 64 (V)))), (2, 16, .val (.slice (some ⟨g1_0, 0, none⟩) 32 32)), (3, 17, .val (.string (Dg.sN 32 (z)))), (4, 18, .val (.slice am lm cm)), (5, 19, .val (.string (Dg.sN lm (zm)))), (6, 20, .val (.string (Dg.sN 64 (V)))), (7, 21, .val (.bool true)), (8, 4, .val (.bool true))] := lok rfl rfl
    refine yJ (wE := w) (sz := 22) (n := 9) (B := [0, 1, 0, 4, 0, 16, 60, 127, 255]) [0, 1, 2, 3, 4, 5, 6, 7, 8] [(4, .val (.bool true))] _ [⟨g1_0, none, none, .u8, 32, z, z, 22⟩, ⟨g4_3, none, none, .u8, 64, V, V, 28⟩] (by rfl) rfl tabls_6 bitsls_6 (by kernel_rfl) (by kernel_rfl) HH4 rfl rfl hLo rfl HS4 (slL 8 (d := 8) rfl (trivial)) ?_ ?_
    · show ∀ i ∈ [0, 1, 2, 3, 4, 5, 6, 7, 8], _
      refine zA (zC 0 _ rfl rfl hLo rfl rfl (fun _ _ _ _ => rfl) (fun b G w hb ho => exec_slice rfl (zD rfl (HS4.get 2 rfl)) rfl rfl rfl (slc_64_0_64 _ _))) ?_
      refine zA (st_read 1 1 _ _ rfl rfl rfl hLo rfl rfl (fun _ _ _ _ => rfl) (by rfl) (by rfl) (fun b G w hb ho hr => exec_convert rfl (zB hLo 0 rfl HS4.1 rfl (hb 0 (by rfl))) (conv_slc hr (Nat.le_of_ble_eq_true rfl)))) ?_
      refine zA (zC 2 _ rfl rfl hLo rfl rfl (fun _ _ _ _ => rfl) (fun b G w hb ho => exec_slice rfl (zD rfl (HS4.get 1 rfl)) rfl rfl rfl (slc_32_0_32 _ _))) ?_
      refine zA (st_read 3 0 _ _ rfl rfl rfl hLo rfl rfl (fun _ _ _ _ => rfl) (by rfl) (by rfl) (fun b G w hb ho hr => exec_convert rfl (zB hLo 2 rfl HS4.1 rfl (hb 2 (by rfl))) (conv_slc hr (Nat.le_of_ble_eq_true rfl)))) ?_
      refine zA (zC 4 _ rfl rfl hLo rfl rfl (fun _ _ _ _ => rfl) (fun b G w hb ho => zF (.inl rfl) (zD rfl (HS4.get 0 rfl)))) ?_
      refine zA (st_readO 5 _ rfl rfl hLo rfl rfl (fun _ _ _ _ => rfl) (fun b G w hb ho hB hO => exec_convert rfl (zB hLo 4 rfl HS4.1 rfl (hb 4 (by rfl))) (conv_nums (hM w hB).1 (hM w hB).2.2.2))) ?_
      refine zA (zG 6 _ #[.string (Dg.sN 32 (z)), .string (Dg.sN lm (zm))] rfl rfl rfl (fun _ _ _ _ => rfl) hLo rfl rfl Tryd.func14 rfl rfl (fun b G hb ho => zV (zB hLo 3 rfl HS4.1 rfl (hb 3 (by rfl))) (zB hLo 5 rfl HS4.1 rfl (hb 5 (by rfl)))) (fun w hw => refsig_as hV w hz hl hm)) ?_
      refine zA (zC 7 _ rfl rfl hLo rfl rfl (fun _ _ _ _ => rfl) (fun b G w hb ho => zQ rfl (zB hLo 1 rfl HS4.1 rfl (hb 1 (by rfl))) (zB hLo 6 rfl HS4.1 rfl (hb 6 (by rfl))) (eqS_run (str_self _) _ _ _))) ?_
      refine zA (zC 8 _ rfl rfl hLo rfl rfl (fun _ _ _ _ => rfl) (fun b G w hb ho => zF (.inr rfl) (zB hLo 7 rfl HS4.1 rfl (hb 7 (by rfl))))) ?_
      exact zE
    clear hLo
    intro G a5 w5 hS hH
    have HS5 : Sl a5 22 [(4, .bool true)] := hS
    have HH5 : Held w w5 [⟨g1_0, .u8, 32, z, 22⟩, ⟨g4_3, .u8, 64, V, 28⟩] := hH
    clear hS hH HS4 HH4
    refine then_ ?_
    refine wp_ret ?_
    repeat refine yD ?_
    exact b_tmp rfl HS5.2.1 (HS5.get 0 rfl) ⟨rfl, HH5.1⟩
  · skip
    refine wp_seq ?_
    refine wp_seq ?_
    have hLo : LOk [(0, 8, .val (.slice am lm cm)), (1, 9, .val (.int .i64 (lm : Int))), (2, 10, .val (.bool true))] := lok rfl rfl
    refine zJ (wE := w) (sz := 22) (n := 3) [0, 1, 3] [(10, .val (.bool true))] _ [⟨g1_0, none, none, .u8, 32, z, z, 22⟩] rfl (by rfl) HH2 rfl rfl hLo rfl HS2 (slL 2 (d := 2) rfl (trivial)) ?_ ?_
    · show ∀ i ∈ [0, 1, 2], _
      refine zA (zC 0 _ rfl rfl hLo rfl rfl (fun _ _ _ _ => rfl) (fun b G w hb ho => zF (.inl rfl) (zD rfl (HS2.get 0 rfl)))) ?_
      refine zA (zC 1 _ rfl rfl hLo rfl rfl (fun _ _ _ _ => rfl) (fun b G w hb ho => exec_len rfl (zB hLo 0 rfl HS2.1 rfl (hb 0 (by rfl))))) ?_
      refine zA (zC 2 _ rfl rfl hLo rfl rfl (fun _ _ _ _ => rfl) (fun b G w hb ho => zQ rfl (zB hLo 1 rfl HS2.1 rfl (hb 1 (by rfl))) (rfl) (gtr_run hr _ _ _))) ?_
      exact zE
    clear hLo
    intro G a6 w6 hS hH
    have HS6 : Sl a6 22 [(10, .bool true)] := hS
    have HH6 : Held w w6 [⟨g1_0, .u8, 32, z, 22⟩] := hH
    clear hS hH HS2 HH2
    refine then_ ?_
    refine wp_cond_true (HS6.get 0 rfl) ?_
    refine wp_seq ?_
    have hLo : LOk [(0, 4, .val (.bool true))] := lok rfl rfl
    refine zJ (wE := w) (sz := 22) (n := 1) [0] [(4, .val (.bool true))] _ [⟨g1_0, none, none, .u8, 32, z, z, 22⟩] rfl (by rfl) HH6 rfl rfl hLo rfl HS6 (slL 0 (d := 0) rfl (trivial)) ?_ ?_
    · show ∀ i ∈ [0], _
      refine zA (zC 0 _ rfl rfl hLo rfl rfl (fun _ _ _ _ => rfl) (fun b G w hb ho => zF (.inr rfl) (rfl))) ?_
      exact zE
    clear hLo
    intro G a7 w7 hS hH
    have HS7 : Sl a7 22 [(4, .bool true)] := hS
    have HH7 : Held w w7 [⟨g1_0, .u8, 32, z, 22⟩] := hH
    clear hS hH HS6 HH6
    refine then_ ?_
    refine wp_ret ?_
    repeat refine yD ?_
    exact b_tmp rfl HS7.2.1 (HS7.get 0 rfl) ⟨rfl, HH7.1⟩
end Go.Proofs.YtbmnkchcekacfaaDoor.P
end

section
namespace Go.Proofs.YtbmnkchcekacfaaDoorW.PrintWords
open Go.ChangeShapes Go.WideShapes
theorem sized_ints {H : Type} {enc : TypeId × Value → H} {P : Program} {W : World} {base : Nat} {spare : Nat → Bool} {held : Bool} {t e : TypeId} {k : IntKind} {a : Option Addr} {len cap : Nat} {d : DataW H} {ps : List MemPlace} {ts : List TypeId} {ds : List (DataW H)} {j : Nat}
    (hsz : (DataW.weightsEach P ts ds).all (· ≤ reachBytes) = true) (ht : ts[j]? = some t) (hd : ds[j]? = some d) (hu : P.underlying t = some (.slice e)) (he : P.underlying e = some (.int k)) (hc : P.cellsOf e = 1) {B : Nat} (hB : P.bytesOf e = B)
    (h : DataW.Trod enc P W base spare held t (.slice a len cap) d ps) : len * B ≤ 140737488351232 := by
  obtain ⟨fuel, hf⟩ := h
  rcases open_ints hu he hc hf with ⟨hcs, _⟩ | ⟨x, l, c, zs, hcs, _, hl, _, hz, hx, _, _⟩
  · simp [Value.cells] at hcs
    obtain ⟨rfl, rfl, rfl⟩ := hcs
    simp
  · simp [Value.cells] at hcs
    obtain ⟨rfl, rfl, rfl⟩ := hcs
    obtain ⟨hx, _⟩ := Prod.mk.inj hx
    subst hx
    have z := sized_slice hsz ht hd hu
    rw [hB] at z
    have hl2 : len ≤ zs.length := by
      rw [hz]
      split
      · exact hl
      · exact Nat.le_refl _
    have h1 : (lits (H := H) k (zs.take len)).length + (lits (H := H) k (zs.drop len)).length = zs.length := by
      simp [lits]
      omega
    rw [h1] at z
    exact Nat.le_trans (Nat.mul_le_mul_right _ hl2) z
end Go.Proofs.YtbmnkchcekacfaaDoorW.PrintWords
end
