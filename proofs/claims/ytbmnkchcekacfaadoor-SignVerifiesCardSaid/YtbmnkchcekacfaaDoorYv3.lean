/- Merged of the texts: Ca, Cb, Cc, Cd, Fr, Ce (trim.py). -/
import Derived.Test.YtbmnkchcekacfaaDoorYv2
section
namespace Go.Proofs.YtbmnkchcekacfaaDoor.P
set_option linter.unusedVariables false
set_option linter.unusedSimpArgs false
open Go.RowKit Go.ChangeShapes Go.WideShapes Go.Proofs.YtbmnkchcekacfaaDoorW.PrintWords Go.Proofs.YtbmnkchcekacfaaDoorW.PrintLast Go.Proofs.YtbmnkchcekacfaaDoorW.PrintMore
open Go.Proofs.YtbmnkchcekacfaaDoor.P.Fd
theorem infoPt : (Tryd.prog.info? 42).map (·.size) = some 20 := by kernel_rfl
theorem infoPr : (Tryd.prog.info? 52).map (·.size) = some 64 := by kernel_rfl
theorem zO : (Tryd.prog.info? 40).map (·.size) = some 5 := by kernel_rfl
theorem zL : (Tryd.prog.info? 50).map (·.size) = some 16 := by kernel_rfl
theorem infoB3 : (Tryd.prog.info? 22).map (·.size) = some 32 := by kernel_rfl
def co (F : Nat → Int) (o j : Nat) : Int := F (o + j)
def pt4 (a b c d : Nat → Int) (i : Nat) : Int := if i < 5 then a i else if i < 10 then b (i - 5) else if i < 15 then c (i - 10) else d (i - 15)
def pr4 (a b c d : Nat → Int) (i : Nat) : Int := if i < 16 then a i else if i < 32 then b (i - 16) else if i < 48 then c (i - 32) else d (i - 48)
theorem build_pt (a b c d : Nat → Int) (w : World) : (Instr.build 42 #[(0, .agg (FR .u64 5 a)), (1, .agg (FR .u64 5 b)), (2, .agg (FR .u64 5 c)), (3, .agg (FR .u64 5 d))]).run Tryd.prog w = .ok (.agg (FR .u64 20 (pt4 a b c d))) w := by kernel_rfl
theorem build_pr (a b c d : Nat → Int) (w : World) : (Instr.build 52 #[(0, .agg (FR .i64 16 a)), (1, .agg (FR .i64 16 b)), (2, .agg (FR .i64 16 c)), (3, .agg (FR .i64 16 d))]).run Tryd.prog w = .ok (.agg (FR .i64 64 (pr4 a b c d))) w := by kernel_rfl
theorem build_z (b c : Nat → Int) (w : World) : (Instr.build 42 #[(1, .agg (FR .u64 5 b)), (2, .agg (FR .u64 5 c))]).run Tryd.prog w = .ok (.agg (FR .u64 20 (pt4 (fun _ => 0) b c fun _ => 0))) w := by kernel_rfl
theorem build_zr (b c : Nat → Int) (w : World) : (Instr.build 52 #[(1, .agg (FR .i64 16 b)), (2, .agg (FR .i64 16 c))]).run Tryd.prog w = .ok (.agg (FR .i64 64 (pr4 (fun _ => 0) b c fun _ => 0))) w := by kernel_rfl
def dL : List Int := [163, 120, 89, 19, 202, 77, 235, 117, 171, 216, 65, 65, 77, 10, 112, 0, 152, 232, 121, 119, 121, 64, 199, 140, 115, 254, 111, 43, 238, 108, 3, 82]
def dB (j : Nat) : Int := dL.getD j 0
theorem dB_By : By dB := fun j hj => by
  have h : ∀ j, j < 32 → 0 ≤ dB j ∧ dB j < 256 := by decide
  exact h j hj
def TabD (w : World) : Prop := ∀ j, j < 32 → w.cell? ((⟨0, 0, none⟩ : Addr).add j) = some (.int .u8 (dB j))
theorem TabD.lt {w : World} (h : TabD w) : 0 < w.heap.size := block_lt_of_cell (h 0 (by omega))
theorem TabD.below {w w' : World} {B : Nat} (h : TabD w) (hb : Below B w w') (hB : 0 < B) : TabD w' := fun j hj => by
  rw [hb.cell (p := (⟨0, 0, none⟩ : Addr).add j) (by unfold Addr.add; split <;> exact hB)]; exact h j hj
theorem TabD.at {w : World} (h : TabD w) (w' : World) (hb : Below w.heap.size w w') : ∀ j, j < 32 → w'.cell? ((⟨0, 0, none⟩ : Addr).add j) = some (.int .u8 (dB j)) := h.below hb h.lt
theorem lmul {f g : Nat → Int} (hf : Lm f) (hg : Lm g) : Lm (mulE f g) := (Fe.mul (n := V51 f) (m := V51 g) ⟨hf, rfl⟩ ⟨hg, rfl⟩).1
theorem ladd {f g : Nat → Int} (hf : Lm f) (hg : Lm g) : Lm (addE f g) := (Fe.add (n := V51 f) (m := V51 g) ⟨hf, rfl⟩ ⟨hg, rfl⟩).1
theorem lsub {f g : Nat → Int} (hf : Lm f) (hg : Lm g) : Lm (subE f g) := (Fe.sub (n := V51 f) (m := V51 g) ⟨hf, rfl⟩ ⟨hg, rfl⟩).1
theorem lneg {g : Nat → Int} (hg : Lm g) : Lm (negE g) := (Fe.neg (m := V51 g) ⟨hg, rfl⟩).1
theorem linv {g : Nat → Int} (hg : Lm g) : Lm (invE g) := (Fe.inv (n := V51 g) ⟨hg, rfl⟩).1
theorem lof {b : Nat → Int} (hb : By b) : Lm (carr (ofL b)) := (Fe.of b hb).1
theorem rmul {f g : Nat → Int} (hf : Rn f) (hg : Rn g) : Rn (mulR f g) := (Re.mul (n := V16 f) (m := V16 g) ⟨hf, rfl⟩ ⟨hg, rfl⟩).1
theorem radd {f g : Nat → Int} (hf : Rn f) (hg : Rn g) : Rn (addR f g) := (Re.add (n := V16 f) (m := V16 g) ⟨hf, rfl⟩ ⟨hg, rfl⟩).1
theorem rsub {f g : Nat → Int} (hf : Rn f) (hg : Rn g) : Rn (subR f g) := (Re.sub (n := V16 f) (m := V16 g) ⟨hf, rfl⟩ ⟨hg, rfl⟩).1
def PL (F : Nat → Int) : Prop := Lm (co F 0) ∧ Lm (co F 5) ∧ Lm (co F 10) ∧ Lm (co F 15)
def PR (F : Nat → Int) : Prop := Rn (co F 0) ∧ Rn (co F 16) ∧ Rn (co F 32) ∧ Rn (co F 48)
theorem lm_same {f g : Nat → Int} (h : ∀ j, j < 5 → f j = g j) (hf : Lm f) : Lm g :=
  ⟨fun j hj => by rw [← h j (by omega)]; exact hf.1 j hj, by rw [← h 4 (by omega)]; exact hf.2⟩
theorem rn_same {f g : Nat → Int} (h : ∀ j, j < 16 → f j = g j) (hf : Rn f) : Rn g :=
  ⟨fun j hj h0 => by rw [← h j hj]; exact hf.1 j hj h0, by rw [← h 0 (by omega)]; exact hf.2⟩
theorem co_pt {a b c d : Nat → Int} : (∀ j, j < 5 → a j = co (pt4 a b c d) 0 j) ∧ (∀ j, j < 5 → b j = co (pt4 a b c d) 5 j) ∧ (∀ j, j < 5 → c j = co (pt4 a b c d) 10 j) ∧ (∀ j, j < 5 → d j = co (pt4 a b c d) 15 j) := by
  unfold co pt4
  refine ⟨fun j hj => ?_, fun j hj => ?_, fun j hj => ?_, fun j hj => ?_⟩
  · rw [if_pos (by omega), Nat.zero_add]
  · rw [if_neg (by omega), if_pos (by omega)]; congr 1; omega
  · rw [if_neg (by omega), if_neg (by omega), if_pos (by omega)]; congr 1; omega
  · rw [if_neg (by omega), if_neg (by omega), if_neg (by omega)]; congr 1; omega
theorem co_pr {a b c d : Nat → Int} : (∀ j, j < 16 → a j = co (pr4 a b c d) 0 j) ∧ (∀ j, j < 16 → b j = co (pr4 a b c d) 16 j) ∧ (∀ j, j < 16 → c j = co (pr4 a b c d) 32 j) ∧ (∀ j, j < 16 → d j = co (pr4 a b c d) 48 j) := by
  unfold co pr4
  refine ⟨fun j hj => ?_, fun j hj => ?_, fun j hj => ?_, fun j hj => ?_⟩
  · rw [if_pos (by omega), Nat.zero_add]
  · rw [if_neg (by omega), if_pos (by omega)]; congr 1; omega
  · rw [if_neg (by omega), if_neg (by omega), if_pos (by omega)]; congr 1; omega
  · rw [if_neg (by omega), if_neg (by omega), if_neg (by omega)]; congr 1; omega
theorem pl_pt {a b c d : Nat → Int} (ha : Lm a) (hb : Lm b) (hc : Lm c) (hd : Lm d) : PL (pt4 a b c d) := ⟨lm_same co_pt.1 ha, lm_same co_pt.2.1 hb, lm_same co_pt.2.2.1 hc, lm_same co_pt.2.2.2 hd⟩
theorem pr_pr {a b c d : Nat → Int} (ha : Rn a) (hb : Rn b) (hc : Rn c) (hd : Rn d) : PR (pr4 a b c d) := ⟨rn_same co_pr.1 ha, rn_same co_pr.2.1 hb, rn_same co_pr.2.2.1 hc, rn_same co_pr.2.2.2 hd⟩
def zeroP : Nat → Int := pt4 (fun _ => 0) (smL 1) (smL 1) fun _ => 0
theorem zero_pt (w : World) : Calls Tryd.prog 37 #[] w fun e w' => e = .returned (.agg (FR .u64 20 zeroP)) ∧ Below w.heap.size w w' := by
  refine enter_ 4 Tryd.func37 rfl rfl (fun a0 hS => ?_)
  have HS0 : Sl a0 4 [] := hS
  have HH0 : Held w w [] := Held.first w
  clear hS
  refine wp_seq ?_
  have hLo : LOk [(0, 0, .ptr 0 0)] := lok rfl rfl
  refine zJ (wE := w) (sz := 4) (n := 1) [0] [(0, .ptr 0 0)] _ [⟨0, some 0, none, .u64, 20, fun _ => 0, fun _ => 0, 42⟩] rfl (by rfl) HH0 rfl rfl hLo rfl HS0 (slL 0 (d := 0) rfl (trivial)) ?_ ?_
  · show ∀ i ∈ [0], _
    refine zA (zK 0 0 .u64 20 42 none _ _ rfl rfl (fun _ _ _ _ => rfl) rfl hLo rfl rfl rfl rfl (by rfl) (fun b G w _ _ => by kernel_rfl)) ?_
    exact zE
  clear hLo
  intro G a1 w1 hS hH
  have HS1 : Sl a1 4 [(0, .pointer (some ⟨(G 0), 0, none⟩))] := hS
  have HH1 : Held w w1 [⟨(G 0), .u64, 20, fun _ => 0, 42⟩] := hH
  clear hS hH HS0 HH0
  generalize G 0 = g1_0 at HS1 HH1
  refine then_ ?_
  refine wp_seq ?_
  have hLo : LOk [(0, 1, .val (.agg (FR .u64 5 (smL 1)))), (1, 2, .val (.agg (FR .u64 5 (smL 1)))), (2, 3, .val (.agg (FR .u64 20 (pt4 (fun _ => 0) (smL 1) (smL 1) fun _ => 0))))] := lok rfl rfl
  refine zJ (wE := w) (sz := 4) (n := 4) [0, 1, 3, 7] [(0, .val (.pointer (some ⟨g1_0, 0, none⟩)))] _ [⟨g1_0, none, some 3, .u64, 20, fun _ => 0, pt4 (fun _ => 0) (smL 1) (smL 1) fun _ => 0, 42⟩] rfl (by rfl) HH1 rfl rfl hLo rfl HS1 (slS 0 rfl rfl (trivial)) ?_ ?_
  · show ∀ i ∈ [0, 1, 2, 3], _
    refine zA (zH 0 _ #[.int .u32 1] rfl rfl rfl (fun _ _ _ _ => rfl) hLo rfl rfl Tryd.func49 rfl rfl (fun b G hb ho => args1 (rfl)) (fun w hw => Fd.small_elem_calls 1 w (by omega))) ?_
    refine zA (zH 1 _ #[.int .u32 1] rfl rfl rfl (fun _ _ _ _ => rfl) hLo rfl rfl Tryd.func49 rfl rfl (fun b G hb ho => args1 (rfl)) (fun w hw => Fd.small_elem_calls 1 w (by omega))) ?_
    refine zA (zC 2 _ rfl rfl hLo rfl rfl (fun _ _ _ _ => rfl) (fun b G w hb ho => zZ rfl (parts2 (zB hLo 0 rfl HS1.1 rfl (hb 0 (by rfl))) (zB hLo 1 rfl HS1.1 rfl (hb 1 (by rfl)))) (build_z _ _ _))) ?_
    refine zA (zI 0 _ rfl rfl rfl rfl rfl (fun _ _ _ _ => rfl) rfl rfl rfl (by rfl) infoPt (fun b G hb ho => zD rfl (HS1.get 0 rfl)) (fun b G hb ho => zB hLo 2 rfl HS1.1 rfl (hb 2 (by rfl)))) ?_
    exact zE
  clear hLo
  intro G a2 w2 hS hH
  have HS2 : Sl a2 4 [(0, .pointer (some ⟨g1_0, 0, none⟩))] := hS
  have HH2 : Held w w2 [⟨g1_0, .u64, 20, pt4 (fun _ => 0) (smL 1) (smL 1) fun _ => 0, 42⟩] := hH
  clear hS hH HS1 HH1
  refine then_ ?_
  exact ret_row rfl HS2.2.1 (HS2.get 0 rfl) (HH2.row 0 rfl) Tryd.underlying42 rfl infoPt ⟨rfl, HH2.1⟩
theorem tabneg_1 : rtab .any (opsOf Tryd.f27 1) = (true, [([], []), ([0], [0]), ([1], [1]), ([], []), ([3], [3]), ([], []), ([5], [5]), ([], []), ([7], [7]), ([8, 2], [8]), ([2, 4, 6, 9], [2, 4, 6, 9]), ([10, 9, 0, 1, 2, 3, 4, 5, 6, 7, 8, 9, 10], [10])]) := by kernel_rfl
theorem bitsneg_1 : zW [([], []), ([0], [0]), ([1], [1]), ([], []), ([3], [3]), ([], []), ([5], [5]), ([], []), ([7], [7]), ([8, 2], [8]), ([2, 4, 6, 9], [2, 4, 6, 9]), ([10, 9, 0, 1, 2, 3, 4, 5, 6, 7, 8, 9, 10], [10])] [0, 1, 3, 0, 8, 0, 32, 0, 128, 391, 1023, 2047] = true := by kernel_rfl
def negP (F : Nat → Int) : Nat → Int := pt4 (negE (co F 0)) (co F 5) (co F 10) (negE (co F 15))
theorem neg_pt (F : Nat → Int) (w : World) (hF : PL F) : Calls Tryd.prog 27 #[.agg (FR .u64 20 F)] w fun e w' => e = .returned (.agg (FR .u64 20 (negP F))) ∧ Below w.heap.size w w' := by
  refine enter_ 14 Tryd.func27 rfl rfl (fun a0 hS => ?_)
  have HS0 : Sl a0 14 [(0, .agg (FR .u64 20 F))] := hS
  have HH0 : Held w w [] := Held.first w
  clear hS
  refine wp_seq ?_
  have hLo : LOk [(0, 1, .ptr 0 0), (1, 2, .ptr 1 0)] := lok rfl rfl
  refine zJ (wE := w) (sz := 14) (n := 2) [0, 1] [(1, .ptr 0 0), (2, .ptr 1 0)] _ [⟨0, some 0, none, .u64, 20, F, F, 42⟩, ⟨0, some 1, none, .u64, 20, fun _ => 0, fun _ => 0, 42⟩] rfl (by rfl) HH0 rfl rfl hLo rfl HS0 (slL 0 (d := 0) rfl (slL 1 (d := 1) rfl (trivial))) ?_ ?_
  · show ∀ i ∈ [0, 1], _
    refine zA (zK 0 0 .u64 20 42 none _ _ rfl rfl (fun _ _ _ _ => rfl) rfl hLo rfl rfl rfl rfl (by rfl) (fun b G w hb ho => exec_box rfl (zD rfl (HS0.get 0 rfl)) (by kernel_rfl))) ?_
    refine zA (zK 1 1 .u64 20 42 none _ _ rfl rfl (fun _ _ _ _ => rfl) rfl hLo rfl rfl rfl rfl (by rfl) (fun b G w _ _ => by kernel_rfl)) ?_
    exact zE
  clear hLo
  intro G a1 w1 hS hH
  have HS1 : Sl a1 14 [(1, .pointer (some ⟨(G 0), 0, none⟩)), (2, .pointer (some ⟨(G 1), 0, none⟩))] := hS
  have HH1 : Held w w1 [⟨(G 0), .u64, 20, F, 42⟩, ⟨(G 1), .u64, 20, fun _ => 0, 42⟩] := hH
  clear hS hH HS0 HH0
  generalize G 0 = g1_0 at HS1 HH1
  generalize G 1 = g1_1 at HS1 HH1
  refine then_ ?_
  refine wp_seq ?_
  have hLo : LOk [(0, 3, .val (.pointer (some ⟨g1_0, 0, none⟩))), (1, 4, .val (.agg (FR .u64 5 (co (F) 0)))), (2, 5, .val (.agg (FR .u64 5 (negE (co (F) 0))))), (3, 6, .val (.pointer (some ⟨g1_0, 5, none⟩))), (4, 7, .val (.agg (FR .u64 5 (co (F) 5)))), (5, 8, .val (.pointer (some ⟨g1_0, 10, none⟩))), (6, 9, .val (.agg (FR .u64 5 (co (F) 10)))), (7, 10, .val (.pointer (some ⟨g1_0, 15, none⟩))), (8, 11, .val (.agg (FR .u64 5 (co (F) 15)))), (9, 12, .val (.agg (FR .u64 5 (negE (co (F) 15))))), (10, 13, .val (.agg (FR .u64 20 (pt4 (negE (co (F) 0)) (co (F) 5) (co (F) 10) (negE (co (F) 15))))))] := lok rfl rfl
  refine yK (wE := w) (sz := 14) (n := 12) (B := [0, 1, 3, 0, 8, 0, 32, 0, 128, 391, 1023, 2047]) [0, 1, 2, 3, 4, 5, 6, 7, 8, 9, 10, 11] [(2, .val (.pointer (some ⟨g1_1, 0, none⟩)))] _ [⟨g1_0, none, none, .u64, 20, F, F, 42⟩, ⟨g1_1, none, some 11, .u64, 20, fun _ => 0, pt4 (negE (co (F) 0)) (co (F) 5) (co (F) 10) (negE (co (F) 15)), 42⟩] (by rfl) rfl tabneg_1 bitsneg_1 (by kernel_rfl) (by kernel_rfl) HH1 rfl rfl hLo rfl HS1 (slS 1 rfl rfl (trivial)) ?_ ?_
  · show ∀ i ∈ [0, 1, 2, 3, 4, 5, 6, 7, 8, 9, 10, 11], _
    refine zA (zC 0 _ rfl rfl hLo rfl rfl (fun _ _ _ _ => rfl) (fun b G w hb ho => zT rfl (zD rfl (HS1.get 0 rfl)) (by kernel_rfl))) ?_
    refine zA (yA 1 0 _ 0 5 rfl rfl rfl rfl (fun _ _ _ _ => rfl) hLo rfl rfl rfl (by rfl) (Nat.le_of_ble_eq_true rfl) Tryd.underlying40 zO rfl (fun b G hb ho => zB hLo 0 rfl HS1.1 rfl (hb 0 (by rfl)))) ?_
    refine zA (zH 2 _ #[.agg (FR .u64 5 (co (F) 0))] rfl rfl rfl (fun _ _ _ _ => rfl) hLo rfl rfl Tryd.func54 rfl rfl (fun b G hb ho => args1 (zB hLo 1 rfl HS1.1 rfl (hb 1 (by rfl)))) (fun w hw => negE_c _ w (hF).1)) ?_
    refine zA (zC 3 _ rfl rfl hLo rfl rfl (fun _ _ _ _ => rfl) (fun b G w hb ho => zT rfl (zD rfl (HS1.get 0 rfl)) (by kernel_rfl))) ?_
    refine zA (yA 4 0 _ 5 5 rfl rfl rfl rfl (fun _ _ _ _ => rfl) hLo rfl rfl rfl (by rfl) (Nat.le_of_ble_eq_true rfl) Tryd.underlying40 zO rfl (fun b G hb ho => zB hLo 3 rfl HS1.1 rfl (hb 3 (by rfl)))) ?_
    refine zA (zC 5 _ rfl rfl hLo rfl rfl (fun _ _ _ _ => rfl) (fun b G w hb ho => zT rfl (zD rfl (HS1.get 0 rfl)) (by kernel_rfl))) ?_
    refine zA (yA 6 0 _ 10 5 rfl rfl rfl rfl (fun _ _ _ _ => rfl) hLo rfl rfl rfl (by rfl) (Nat.le_of_ble_eq_true rfl) Tryd.underlying40 zO rfl (fun b G hb ho => zB hLo 5 rfl HS1.1 rfl (hb 5 (by rfl)))) ?_
    refine zA (zC 7 _ rfl rfl hLo rfl rfl (fun _ _ _ _ => rfl) (fun b G w hb ho => zT rfl (zD rfl (HS1.get 0 rfl)) (by kernel_rfl))) ?_
    refine zA (yA 8 0 _ 15 5 rfl rfl rfl rfl (fun _ _ _ _ => rfl) hLo rfl rfl rfl (by rfl) (Nat.le_of_ble_eq_true rfl) Tryd.underlying40 zO rfl (fun b G hb ho => zB hLo 7 rfl HS1.1 rfl (hb 7 (by rfl)))) ?_
    refine zA (zH 9 _ #[.agg (FR .u64 5 (co (F) 15))] rfl rfl rfl (fun _ _ _ _ => rfl) hLo rfl rfl Tryd.func54 rfl rfl (fun b G hb ho => args1 (zB hLo 8 rfl HS1.1 rfl (hb 8 (by rfl)))) (fun w hw => negE_c _ w (hF).2.2.2)) ?_
    refine zA (zC 10 _ rfl rfl hLo rfl rfl (fun _ _ _ _ => rfl) (fun b G w hb ho => zZ rfl (parts4 (zB hLo 2 rfl HS1.1 rfl (hb 2 (by rfl))) (zB hLo 4 rfl HS1.1 rfl (hb 4 (by rfl))) (zB hLo 6 rfl HS1.1 rfl (hb 6 (by rfl))) (zB hLo 9 rfl HS1.1 rfl (hb 9 (by rfl)))) (build_pt _ _ _ _ _))) ?_
    refine zA (zI 1 _ rfl rfl rfl rfl rfl (fun _ _ _ _ => rfl) rfl rfl rfl (by rfl) infoPt (fun b G hb ho => zD rfl (HS1.get 1 rfl)) (fun b G hb ho => zB hLo 10 rfl HS1.1 rfl (hb 10 (by rfl)))) ?_
    exact zE
  clear hLo
  intro G a2 w2 hS hH
  have HS2 : Sl a2 14 [(2, .pointer (some ⟨g1_1, 0, none⟩))] := hS
  have HH2 : Held w w2 [⟨g1_0, .u64, 20, F, 42⟩, ⟨g1_1, .u64, 20, pt4 (negE (co (F) 0)) (co (F) 5) (co (F) 10) (negE (co (F) 15)), 42⟩] := hH
  clear hS hH HS1 HH1
  refine then_ ?_
  exact ret_row rfl HS2.2.1 (HS2.get 0 rfl) (HH2.row 1 rfl) Tryd.underlying42 rfl infoPt ⟨rfl, HH2.1⟩
theorem tabadd_2 : rtab .any (opsOf Tryd.f26 2) = (true, [([], []), ([0], [0]), ([], []), ([2], [2]), ([1, 3], [1, 3]), ([], []), ([5], [5]), ([], []), ([7], [7]), ([6, 8, 4], [6, 8]), ([4, 9, 9], [4, 9]), ([], []), ([11, 10, 10, 0, 1, 2, 3, 4, 5, 6, 7, 8, 9, 10, 11], [10, 11])]) := by kernel_rfl
theorem bitsadd_2 : zW [([], []), ([0], [0]), ([], []), ([2], [2]), ([1, 3], [1, 3]), ([], []), ([5], [5]), ([], []), ([7], [7]), ([6, 8, 4], [6, 8]), ([4, 9, 9], [4, 9]), ([], []), ([11, 10, 10, 0, 1, 2, 3, 4, 5, 6, 7, 8, 9, 10, 11], [10, 11])] [0, 1, 0, 4, 15, 0, 32, 0, 128, 511, 1023, 0, 4095] = true := by kernel_rfl
theorem tabadd_3 : rtab .any (opsOf Tryd.f26 3) = (true, [([], []), ([0], [0]), ([], []), ([2], [2]), ([1, 3], [1, 3]), ([], []), ([5], [5]), ([], []), ([7], [7]), ([6, 8, 4], [6, 8]), ([4, 9, 9], [4, 9]), ([], []), ([11, 10, 10, 0, 1, 2, 3, 4, 5, 6, 7, 8, 9, 10, 11], [10, 11])]) := by kernel_rfl
theorem bitsadd_3 : zW [([], []), ([0], [0]), ([], []), ([2], [2]), ([1, 3], [1, 3]), ([], []), ([5], [5]), ([], []), ([7], [7]), ([6, 8, 4], [6, 8]), ([4, 9, 9], [4, 9]), ([], []), ([11, 10, 10, 0, 1, 2, 3, 4, 5, 6, 7, 8, 9, 10, 11], [10, 11])] [0, 1, 0, 4, 15, 0, 32, 0, 128, 511, 1023, 0, 4095] = true := by kernel_rfl
theorem tabadd_4 : rtab .any (opsOf Tryd.f26 4) = (true, [([], []), ([0], [0]), ([], []), ([2], [2]), ([1, 3], [1, 3]), ([], []), ([5, 4], [5]), ([4, 6, 6], [4, 6]), ([], []), ([7, 8, 7], [7, 8]), ([], []), ([10, 9, 9, 0, 1, 2, 3, 4, 5, 6, 7, 8, 9, 10], [9, 10])]) := by kernel_rfl
theorem bitsadd_4 : zW [([], []), ([0], [0]), ([], []), ([2], [2]), ([1, 3], [1, 3]), ([], []), ([5, 4], [5]), ([4, 6, 6], [4, 6]), ([], []), ([7, 8, 7], [7, 8]), ([], []), ([10, 9, 9, 0, 1, 2, 3, 4, 5, 6, 7, 8, 9, 10], [9, 10])] [0, 1, 0, 4, 15, 0, 63, 127, 0, 511, 0, 2047] = true := by kernel_rfl
theorem tabadd_5 : rtab .any (opsOf Tryd.f26 5) = (true, [([], []), ([0], [0]), ([], []), ([2], [2]), ([1, 3], [1, 3]), ([], []), ([4, 5, 4], [4, 5]), ([], []), ([7, 6, 6, 0, 1, 2, 3, 4, 5, 6, 7], [6, 7])]) := by kernel_rfl
theorem bitsadd_5 : zW [([], []), ([0], [0]), ([], []), ([2], [2]), ([1, 3], [1, 3]), ([], []), ([4, 5, 4], [4, 5]), ([], []), ([7, 6, 6, 0, 1, 2, 3, 4, 5, 6, 7], [6, 7])] [0, 1, 0, 4, 15, 0, 63, 0, 255] = true := by kernel_rfl
theorem tabadd_6 : rtab .any (opsOf Tryd.f26 6) = (true, [([], []), ([], []), ([0, 1], [0, 1]), ([], []), ([], []), ([3, 4, 2], [3, 4]), ([], []), ([], []), ([6, 7, 5], [6, 7]), ([], []), ([], []), ([9, 10, 8], [9, 10]), ([], []), ([], []), ([], []), ([], []), ([12, 2, 11, 0, 1, 2, 12, 13, 14, 15], [2, 12]), ([13, 5, 16, 0, 1, 2, 3, 4, 5, 12, 13, 14, 15, 16], [5, 13]), ([14, 8, 17, 0, 1, 2, 3, 4, 5, 6, 7, 8, 12, 13, 14, 15, 16, 17], [8, 14]), ([15, 11, 18, 0, 1, 2, 3, 4, 5, 6, 7, 8, 9, 10, 11, 12, 13, 14, 15, 16, 17, 18], [11, 15])]) := by kernel_rfl
theorem bitsadd_6 : zW [([], []), ([], []), ([0, 1], [0, 1]), ([], []), ([], []), ([3, 4, 2], [3, 4]), ([], []), ([], []), ([6, 7, 5], [6, 7]), ([], []), ([], []), ([9, 10, 8], [9, 10]), ([], []), ([], []), ([], []), ([], []), ([12, 2, 11, 0, 1, 2, 12, 13, 14, 15], [2, 12]), ([13, 5, 16, 0, 1, 2, 3, 4, 5, 12, 13, 14, 15, 16], [5, 13]), ([14, 8, 17, 0, 1, 2, 3, 4, 5, 6, 7, 8, 12, 13, 14, 15, 16, 17], [8, 14]), ([15, 11, 18, 0, 1, 2, 3, 4, 5, 6, 7, 8, 9, 10, 11, 12, 13, 14, 15, 16, 17, 18], [11, 15])] [0, 0, 3, 0, 0, 31, 0, 0, 255, 0, 0, 2047, 0, 0, 0, 0, 65535, 131071, 262143, 524287] = true := by kernel_rfl
theorem tabadd_7 : rtab .any (opsOf Tryd.f26 7) = (true, [([], []), ([], []), ([0, 1], [0, 1]), ([], []), ([], []), ([3, 4, 2], [3, 4]), ([], []), ([], []), ([6, 7, 5], [6, 7]), ([], []), ([], []), ([9, 10, 8], [9, 10]), ([2, 5, 8, 11], [2, 5, 8, 11]), ([12, 11, 0, 1, 2, 3, 4, 5, 6, 7, 8, 9, 10, 11, 12], [12])]) := by kernel_rfl
theorem bitsadd_7 : zW [([], []), ([], []), ([0, 1], [0, 1]), ([], []), ([], []), ([3, 4, 2], [3, 4]), ([], []), ([], []), ([6, 7, 5], [6, 7]), ([], []), ([], []), ([9, 10, 8], [9, 10]), ([2, 5, 8, 11], [2, 5, 8, 11]), ([12, 11, 0, 1, 2, 3, 4, 5, 6, 7, 8, 9, 10, 11, 12], [12])] [0, 0, 3, 0, 0, 31, 0, 0, 255, 0, 0, 2047, 4095, 8191] = true := by kernel_rfl
def aP (F H : Nat → Int) : Nat → Int := mulE (subE (co F 5) (co F 0)) (subE (co H 5) (co H 0))
def bP (F H : Nat → Int) : Nat → Int := mulE (addE (co F 5) (co F 0)) (addE (co H 5) (co H 0))
def cP (F H : Nat → Int) : Nat → Int := mulE (mulE (mulE (co F 15) (co H 15)) (carr (ofL dB))) (smL 2)
def eP (F H : Nat → Int) : Nat → Int := mulE (mulE (co F 10) (co H 10)) (smL 2)
def fP (F H : Nat → Int) : Nat → Int := subE (bP F H) (aP F H)
def gP (F H : Nat → Int) : Nat → Int := subE (eP F H) (cP F H)
def hP (F H : Nat → Int) : Nat → Int := addE (eP F H) (cP F H)
def iP (F H : Nat → Int) : Nat → Int := addE (bP F H) (aP F H)
def addP (F H : Nat → Int) : Nat → Int := pt4 (mulE (fP F H) (gP F H)) (mulE (hP F H) (iP F H)) (mulE (gP F H) (hP F H)) (mulE (fP F H) (iP F H))
theorem aP_Lm {F H : Nat → Int} (hF : PL F) (hH : PL H) : Lm (aP F H) := lmul (lsub hF.2.1 hF.1) (lsub hH.2.1 hH.1)
theorem bP_Lm {F H : Nat → Int} (hF : PL F) (hH : PL H) : Lm (bP F H) := lmul (ladd hF.2.1 hF.1) (ladd hH.2.1 hH.1)
theorem cP_Lm {F H : Nat → Int} (hF : PL F) (hH : PL H) : Lm (cP F H) := lmul (lmul (lmul hF.2.2.2 hH.2.2.2) (lof dB_By)) (smL_Lm 2 (by omega))
theorem eP_Lm {F H : Nat → Int} (hF : PL F) (hH : PL H) : Lm (eP F H) := lmul (lmul hF.2.2.1 hH.2.2.1) (smL_Lm 2 (by omega))
theorem fP_Lm {F H : Nat → Int} (hF : PL F) (hH : PL H) : Lm (fP F H) := lsub (bP_Lm hF hH) (aP_Lm hF hH)
theorem gP_Lm {F H : Nat → Int} (hF : PL F) (hH : PL H) : Lm (gP F H) := lsub (eP_Lm hF hH) (cP_Lm hF hH)
theorem hP_Lm {F H : Nat → Int} (hF : PL F) (hH : PL H) : Lm (hP F H) := ladd (eP_Lm hF hH) (cP_Lm hF hH)
theorem iP_Lm {F H : Nat → Int} (hF : PL F) (hH : PL H) : Lm (iP F H) := ladd (bP_Lm hF hH) (aP_Lm hF hH)
theorem addP_PL {F H : Nat → Int} (hF : PL F) (hH : PL H) : PL (addP F H) := pl_pt (lmul (fP_Lm hF hH) (gP_Lm hF hH)) (lmul (hP_Lm hF hH) (iP_Lm hF hH)) (lmul (gP_Lm hF hH) (hP_Lm hF hH)) (lmul (fP_Lm hF hH) (iP_Lm hF hH))
theorem add_pt (F H : Nat → Int) (w : World) (hT : TabD w) (hF : PL F) (hH : PL H) : Calls Tryd.prog 26 #[.agg (FR .u64 20 F), .agg (FR .u64 20 H)] w fun e w' => e = .returned (.agg (FR .u64 20 (addP F H))) ∧ Below w.heap.size w w' := by
  refine enter_ 79 Tryd.func26 rfl rfl (fun a0 hS => ?_)
  have HS0 : Sl a0 79 [(0, .agg (FR .u64 20 F)), (1, .agg (FR .u64 20 H))] := hS
  have HH0 : Held w w [] := Held.first w
  clear hS
  refine wp_seq ?_
  have hLo : LOk [(0, 2, .ptr 0 0), (1, 3, .ptr 1 0), (2, 4, .ptr 2 0)] := lok rfl rfl
  refine zJ (wE := w) (sz := 79) (n := 3) [0, 1, 3] [(2, .ptr 0 0), (3, .ptr 1 0), (4, .ptr 2 0)] _ [⟨0, some 0, none, .u64, 20, F, F, 42⟩, ⟨0, some 1, none, .u64, 20, H, H, 42⟩, ⟨0, some 2, none, .u64, 20, fun _ => 0, fun _ => 0, 42⟩] rfl (by rfl) HH0 rfl rfl hLo rfl HS0 (slL 0 (d := 0) rfl (slL 1 (d := 1) rfl (slL 2 (d := 2) rfl (trivial)))) ?_ ?_
  · show ∀ i ∈ [0, 1, 2], _
    refine zA (zK 0 0 .u64 20 42 none _ _ rfl rfl (fun _ _ _ _ => rfl) rfl hLo rfl rfl rfl rfl (by rfl) (fun b G w hb ho => exec_box rfl (zD rfl (HS0.get 0 rfl)) (by kernel_rfl))) ?_
    refine zA (zK 1 1 .u64 20 42 none _ _ rfl rfl (fun _ _ _ _ => rfl) rfl hLo rfl rfl rfl rfl (by rfl) (fun b G w hb ho => exec_box rfl (zD rfl (HS0.get 1 rfl)) (by kernel_rfl))) ?_
    refine zA (zK 2 2 .u64 20 42 none _ _ rfl rfl (fun _ _ _ _ => rfl) rfl hLo rfl rfl rfl rfl (by rfl) (fun b G w _ _ => by kernel_rfl)) ?_
    exact zE
  clear hLo
  intro G a1 w1 hS hH
  have HS1 : Sl a1 79 [(2, .pointer (some ⟨(G 0), 0, none⟩)), (3, .pointer (some ⟨(G 1), 0, none⟩)), (4, .pointer (some ⟨(G 2), 0, none⟩))] := hS
  have HH1 : Held w w1 [⟨(G 0), .u64, 20, F, 42⟩, ⟨(G 1), .u64, 20, H, 42⟩, ⟨(G 2), .u64, 20, fun _ => 0, 42⟩] := hH
  clear hS hH HS0 HH0
  generalize G 0 = g1_0 at HS1 HH1
  generalize G 1 = g1_1 at HS1 HH1
  generalize G 2 = g1_2 at HS1 HH1
  refine then_ ?_
  refine wp_seq ?_
  have hLo : LOk [(0, 14, .val (.agg (FR .u64 5 (smL 2)))), (1, 5, .ptr 1 0)] := lok rfl rfl
  refine zJ (wE := w) (sz := 79) (n := 3) [0, 1, 3] [(2, .val (.pointer (some ⟨g1_0, 0, none⟩))), (3, .val (.pointer (some ⟨g1_1, 0, none⟩))), (4, .val (.pointer (some ⟨g1_2, 0, none⟩))), (5, .ptr 1 0)] _ [⟨g1_0, none, none, .u64, 20, F, F, 42⟩, ⟨g1_1, none, none, .u64, 20, H, H, 42⟩, ⟨g1_2, none, none, .u64, 20, fun _ => 0, fun _ => 0, 42⟩, ⟨0, some 1, some 2, .u64, 5, fun _ => 0, smL 2, 40⟩] rfl (by rfl) HH1 rfl rfl hLo rfl HS1 (slS 0 rfl rfl (slS 1 rfl rfl (slS 2 rfl rfl (slL 1 (d := 1) rfl (trivial))))) ?_ ?_
  · show ∀ i ∈ [0, 1, 2], _
    refine zA (zH 0 _ #[.int .u32 2] rfl rfl rfl (fun _ _ _ _ => rfl) hLo rfl rfl Tryd.func49 rfl rfl (fun b G hb ho => args1 (rfl)) (fun w hw => Fd.small_elem_calls 2 w (by omega))) ?_
    refine zA (zK 1 3 .u64 5 40 (some 2) _ _ rfl rfl (fun _ _ _ _ => rfl) rfl hLo rfl rfl rfl rfl (by rfl) (fun b G w _ _ => by kernel_rfl)) ?_
    refine zA (zI 3 _ rfl rfl rfl rfl rfl (fun _ _ _ _ => rfl) rfl rfl rfl (by rfl) zO (fun b G hb ho => zB hLo 1 rfl HS1.1 rfl (hb 1 (by rfl))) (fun b G hb ho => zB hLo 0 rfl HS1.1 rfl (hb 0 (by rfl)))) ?_
    exact zE
  clear hLo
  intro G a2 w2 hS hH
  have HS2 : Sl a2 79 [(2, .pointer (some ⟨g1_0, 0, none⟩)), (3, .pointer (some ⟨g1_1, 0, none⟩)), (4, .pointer (some ⟨g1_2, 0, none⟩)), (5, .pointer (some ⟨(G 1), 0, none⟩))] := hS
  have HH2 : Held w w2 [⟨g1_0, .u64, 20, F, 42⟩, ⟨g1_1, .u64, 20, H, 42⟩, ⟨g1_2, .u64, 20, fun _ => 0, 42⟩, ⟨(G 1), .u64, 5, smL 2, 40⟩] := hH
  clear hS hH HS1 HH1
  generalize G 1 = g2_1 at HS2 HH2
  refine then_ ?_
  refine wp_seq ?_
  have hLo : LOk [(0, 15, .val (.pointer (some ⟨g1_0, 5, none⟩))), (1, 16, .val (.agg (FR .u64 5 (co (F) 5)))), (2, 17, .val (.pointer (some ⟨g1_0, 0, none⟩))), (3, 18, .val (.agg (FR .u64 5 (co (F) 0)))), (4, 19, .val (.agg (FR .u64 5 (subE (co (F) 5) (co (F) 0))))), (5, 20, .val (.pointer (some ⟨g1_1, 5, none⟩))), (6, 21, .val (.agg (FR .u64 5 (co (H) 5)))), (7, 22, .val (.pointer (some ⟨g1_1, 0, none⟩))), (8, 23, .val (.agg (FR .u64 5 (co (H) 0)))), (9, 24, .val (.agg (FR .u64 5 (subE (co (H) 5) (co (H) 0))))), (10, 25, .val (.agg (FR .u64 5 (mulE (subE (co (F) 5) (co (F) 0)) (subE (co (H) 5) (co (H) 0)))))), (11, 6, .ptr 11 0)] := lok rfl rfl
  refine yK (wE := w) (sz := 79) (n := 13) (B := [0, 1, 0, 4, 15, 0, 32, 0, 128, 511, 1023, 0, 4095]) [0, 1, 2, 3, 4, 5, 6, 7, 8, 9, 10, 11, 12] [(2, .val (.pointer (some ⟨g1_0, 0, none⟩))), (3, .val (.pointer (some ⟨g1_1, 0, none⟩))), (4, .val (.pointer (some ⟨g1_2, 0, none⟩))), (5, .val (.pointer (some ⟨g2_1, 0, none⟩))), (6, .ptr 11 0)] _ [⟨g1_0, none, none, .u64, 20, F, F, 42⟩, ⟨g1_1, none, none, .u64, 20, H, H, 42⟩, ⟨g1_2, none, none, .u64, 20, fun _ => 0, fun _ => 0, 42⟩, ⟨g2_1, none, none, .u64, 5, smL 2, smL 2, 40⟩, ⟨0, some 11, some 12, .u64, 5, fun _ => 0, mulE (subE (co (F) 5) (co (F) 0)) (subE (co (H) 5) (co (H) 0)), 40⟩] (by rfl) rfl tabadd_2 bitsadd_2 (by kernel_rfl) (by kernel_rfl) HH2 rfl rfl hLo rfl HS2 (slS 0 rfl rfl (slS 1 rfl rfl (slS 2 rfl rfl (slS 3 rfl rfl (slL 11 (d := 11) rfl (trivial)))))) ?_ ?_
  · show ∀ i ∈ [0, 1, 2, 3, 4, 5, 6, 7, 8, 9, 10, 11, 12], _
    refine zA (zC 0 _ rfl rfl hLo rfl rfl (fun _ _ _ _ => rfl) (fun b G w hb ho => zT rfl (zD rfl (HS2.get 0 rfl)) (by kernel_rfl))) ?_
    refine zA (yA 1 0 _ 5 5 rfl rfl rfl rfl (fun _ _ _ _ => rfl) hLo rfl rfl rfl (by rfl) (Nat.le_of_ble_eq_true rfl) Tryd.underlying40 zO rfl (fun b G hb ho => zB hLo 0 rfl HS2.1 rfl (hb 0 (by rfl)))) ?_
    refine zA (zC 2 _ rfl rfl hLo rfl rfl (fun _ _ _ _ => rfl) (fun b G w hb ho => zT rfl (zD rfl (HS2.get 0 rfl)) (by kernel_rfl))) ?_
    refine zA (yA 3 0 _ 0 5 rfl rfl rfl rfl (fun _ _ _ _ => rfl) hLo rfl rfl rfl (by rfl) (Nat.le_of_ble_eq_true rfl) Tryd.underlying40 zO rfl (fun b G hb ho => zB hLo 2 rfl HS2.1 rfl (hb 2 (by rfl)))) ?_
    refine zA (zH 4 _ #[.agg (FR .u64 5 (co (F) 5)), .agg (FR .u64 5 (co (F) 0))] rfl rfl rfl (fun _ _ _ _ => rfl) hLo rfl rfl Tryd.func50 rfl rfl (fun b G hb ho => zU (zB hLo 1 rfl HS2.1 rfl (hb 1 (by rfl))) (zB hLo 3 rfl HS2.1 rfl (hb 3 (by rfl)))) (fun w hw => subE_c _ _ w (hF).2.1 (hF).1)) ?_
    refine zA (zC 5 _ rfl rfl hLo rfl rfl (fun _ _ _ _ => rfl) (fun b G w hb ho => zT rfl (zD rfl (HS2.get 1 rfl)) (by kernel_rfl))) ?_
    refine zA (yA 6 1 _ 5 5 rfl rfl rfl rfl (fun _ _ _ _ => rfl) hLo rfl rfl rfl (by rfl) (Nat.le_of_ble_eq_true rfl) Tryd.underlying40 zO rfl (fun b G hb ho => zB hLo 5 rfl HS2.1 rfl (hb 5 (by rfl)))) ?_
    refine zA (zC 7 _ rfl rfl hLo rfl rfl (fun _ _ _ _ => rfl) (fun b G w hb ho => zT rfl (zD rfl (HS2.get 1 rfl)) (by kernel_rfl))) ?_
    refine zA (yA 8 1 _ 0 5 rfl rfl rfl rfl (fun _ _ _ _ => rfl) hLo rfl rfl rfl (by rfl) (Nat.le_of_ble_eq_true rfl) Tryd.underlying40 zO rfl (fun b G hb ho => zB hLo 7 rfl HS2.1 rfl (hb 7 (by rfl)))) ?_
    refine zA (zH 9 _ #[.agg (FR .u64 5 (co (H) 5)), .agg (FR .u64 5 (co (H) 0))] rfl rfl rfl (fun _ _ _ _ => rfl) hLo rfl rfl Tryd.func50 rfl rfl (fun b G hb ho => zU (zB hLo 6 rfl HS2.1 rfl (hb 6 (by rfl))) (zB hLo 8 rfl HS2.1 rfl (hb 8 (by rfl)))) (fun w hw => subE_c _ _ w (hH).2.1 (hH).1)) ?_
    refine zA (zH 10 _ #[.agg (FR .u64 5 (subE (co (F) 5) (co (F) 0))), .agg (FR .u64 5 (subE (co (H) 5) (co (H) 0)))] rfl rfl rfl (fun _ _ _ _ => rfl) hLo rfl rfl Tryd.func39 rfl rfl (fun b G hb ho => zU (zB hLo 4 rfl HS2.1 rfl (hb 4 (by rfl))) (zB hLo 9 rfl HS2.1 rfl (hb 9 (by rfl)))) (fun w hw => zS _ _ w (lsub (hF).2.1 (hF).1) (lsub (hH).2.1 (hH).1))) ?_
    refine zA (zK 11 4 .u64 5 40 (some 12) _ _ rfl rfl (fun _ _ _ _ => rfl) rfl hLo rfl rfl rfl rfl (by rfl) (fun b G w _ _ => by kernel_rfl)) ?_
    refine zA (zI 4 _ rfl rfl rfl rfl rfl (fun _ _ _ _ => rfl) rfl rfl rfl (by rfl) zO (fun b G hb ho => zB hLo 11 rfl HS2.1 rfl (hb 11 (by rfl))) (fun b G hb ho => zB hLo 10 rfl HS2.1 rfl (hb 10 (by rfl)))) ?_
    exact zE
  clear hLo
  intro G a3 w3 hS hH
  have HS3 : Sl a3 79 [(2, .pointer (some ⟨g1_0, 0, none⟩)), (3, .pointer (some ⟨g1_1, 0, none⟩)), (4, .pointer (some ⟨g1_2, 0, none⟩)), (5, .pointer (some ⟨g2_1, 0, none⟩)), (6, .pointer (some ⟨(G 11), 0, none⟩))] := hS
  have HH3 : Held w w3 [⟨g1_0, .u64, 20, F, 42⟩, ⟨g1_1, .u64, 20, H, 42⟩, ⟨g1_2, .u64, 20, fun _ => 0, 42⟩, ⟨g2_1, .u64, 5, smL 2, 40⟩, ⟨(G 11), .u64, 5, aP F H, 40⟩] := hH
  clear hS hH HS2 HH2
  generalize G 11 = g3_11 at HS3 HH3
  refine then_ ?_
  refine wp_seq ?_
  have hLo : LOk [(0, 26, .val (.pointer (some ⟨g1_0, 5, none⟩))), (1, 27, .val (.agg (FR .u64 5 (co (F) 5)))), (2, 28, .val (.pointer (some ⟨g1_0, 0, none⟩))), (3, 29, .val (.agg (FR .u64 5 (co (F) 0)))), (4, 30, .val (.agg (FR .u64 5 (addE (co (F) 5) (co (F) 0))))), (5, 31, .val (.pointer (some ⟨g1_1, 5, none⟩))), (6, 32, .val (.agg (FR .u64 5 (co (H) 5)))), (7, 33, .val (.pointer (some ⟨g1_1, 0, none⟩))), (8, 34, .val (.agg (FR .u64 5 (co (H) 0)))), (9, 35, .val (.agg (FR .u64 5 (addE (co (H) 5) (co (H) 0))))), (10, 36, .val (.agg (FR .u64 5 (mulE (addE (co (F) 5) (co (F) 0)) (addE (co (H) 5) (co (H) 0)))))), (11, 7, .ptr 11 0)] := lok rfl rfl
  refine yK (wE := w) (sz := 79) (n := 13) (B := [0, 1, 0, 4, 15, 0, 32, 0, 128, 511, 1023, 0, 4095]) [0, 1, 2, 3, 4, 5, 6, 7, 8, 9, 10, 11, 12] [(2, .val (.pointer (some ⟨g1_0, 0, none⟩))), (3, .val (.pointer (some ⟨g1_1, 0, none⟩))), (4, .val (.pointer (some ⟨g1_2, 0, none⟩))), (5, .val (.pointer (some ⟨g2_1, 0, none⟩))), (6, .val (.pointer (some ⟨g3_11, 0, none⟩))), (7, .ptr 11 0)] _ [⟨g1_0, none, none, .u64, 20, F, F, 42⟩, ⟨g1_1, none, none, .u64, 20, H, H, 42⟩, ⟨g1_2, none, none, .u64, 20, fun _ => 0, fun _ => 0, 42⟩, ⟨g2_1, none, none, .u64, 5, smL 2, smL 2, 40⟩, ⟨g3_11, none, none, .u64, 5, aP F H, aP F H, 40⟩, ⟨0, some 11, some 12, .u64, 5, fun _ => 0, mulE (addE (co (F) 5) (co (F) 0)) (addE (co (H) 5) (co (H) 0)), 40⟩] (by rfl) rfl tabadd_3 bitsadd_3 (by kernel_rfl) (by kernel_rfl) HH3 rfl rfl hLo rfl HS3 (slS 0 rfl rfl (slS 1 rfl rfl (slS 2 rfl rfl (slS 3 rfl rfl (slS 4 rfl rfl (slL 11 (d := 11) rfl (trivial))))))) ?_ ?_
  · show ∀ i ∈ [0, 1, 2, 3, 4, 5, 6, 7, 8, 9, 10, 11, 12], _
    refine zA (zC 0 _ rfl rfl hLo rfl rfl (fun _ _ _ _ => rfl) (fun b G w hb ho => zT rfl (zD rfl (HS3.get 0 rfl)) (by kernel_rfl))) ?_
    refine zA (yA 1 0 _ 5 5 rfl rfl rfl rfl (fun _ _ _ _ => rfl) hLo rfl rfl rfl (by rfl) (Nat.le_of_ble_eq_true rfl) Tryd.underlying40 zO rfl (fun b G hb ho => zB hLo 0 rfl HS3.1 rfl (hb 0 (by rfl)))) ?_
    refine zA (zC 2 _ rfl rfl hLo rfl rfl (fun _ _ _ _ => rfl) (fun b G w hb ho => zT rfl (zD rfl (HS3.get 0 rfl)) (by kernel_rfl))) ?_
    refine zA (yA 3 0 _ 0 5 rfl rfl rfl rfl (fun _ _ _ _ => rfl) hLo rfl rfl rfl (by rfl) (Nat.le_of_ble_eq_true rfl) Tryd.underlying40 zO rfl (fun b G hb ho => zB hLo 2 rfl HS3.1 rfl (hb 2 (by rfl)))) ?_
    refine zA (zH 4 _ #[.agg (FR .u64 5 (co (F) 5)), .agg (FR .u64 5 (co (F) 0))] rfl rfl rfl (fun _ _ _ _ => rfl) hLo rfl rfl Tryd.func51 rfl rfl (fun b G hb ho => zU (zB hLo 1 rfl HS3.1 rfl (hb 1 (by rfl))) (zB hLo 3 rfl HS3.1 rfl (hb 3 (by rfl)))) (fun w hw => addE_c _ _ w (hF).2.1 (hF).1)) ?_
    refine zA (zC 5 _ rfl rfl hLo rfl rfl (fun _ _ _ _ => rfl) (fun b G w hb ho => zT rfl (zD rfl (HS3.get 1 rfl)) (by kernel_rfl))) ?_
    refine zA (yA 6 1 _ 5 5 rfl rfl rfl rfl (fun _ _ _ _ => rfl) hLo rfl rfl rfl (by rfl) (Nat.le_of_ble_eq_true rfl) Tryd.underlying40 zO rfl (fun b G hb ho => zB hLo 5 rfl HS3.1 rfl (hb 5 (by rfl)))) ?_
    refine zA (zC 7 _ rfl rfl hLo rfl rfl (fun _ _ _ _ => rfl) (fun b G w hb ho => zT rfl (zD rfl (HS3.get 1 rfl)) (by kernel_rfl))) ?_
    refine zA (yA 8 1 _ 0 5 rfl rfl rfl rfl (fun _ _ _ _ => rfl) hLo rfl rfl rfl (by rfl) (Nat.le_of_ble_eq_true rfl) Tryd.underlying40 zO rfl (fun b G hb ho => zB hLo 7 rfl HS3.1 rfl (hb 7 (by rfl)))) ?_
    refine zA (zH 9 _ #[.agg (FR .u64 5 (co (H) 5)), .agg (FR .u64 5 (co (H) 0))] rfl rfl rfl (fun _ _ _ _ => rfl) hLo rfl rfl Tryd.func51 rfl rfl (fun b G hb ho => zU (zB hLo 6 rfl HS3.1 rfl (hb 6 (by rfl))) (zB hLo 8 rfl HS3.1 rfl (hb 8 (by rfl)))) (fun w hw => addE_c _ _ w (hH).2.1 (hH).1)) ?_
    refine zA (zH 10 _ #[.agg (FR .u64 5 (addE (co (F) 5) (co (F) 0))), .agg (FR .u64 5 (addE (co (H) 5) (co (H) 0)))] rfl rfl rfl (fun _ _ _ _ => rfl) hLo rfl rfl Tryd.func39 rfl rfl (fun b G hb ho => zU (zB hLo 4 rfl HS3.1 rfl (hb 4 (by rfl))) (zB hLo 9 rfl HS3.1 rfl (hb 9 (by rfl)))) (fun w hw => zS _ _ w (ladd (hF).2.1 (hF).1) (ladd (hH).2.1 (hH).1))) ?_
    refine zA (zK 11 5 .u64 5 40 (some 12) _ _ rfl rfl (fun _ _ _ _ => rfl) rfl hLo rfl rfl rfl rfl (by rfl) (fun b G w _ _ => by kernel_rfl)) ?_
    refine zA (zI 5 _ rfl rfl rfl rfl rfl (fun _ _ _ _ => rfl) rfl rfl rfl (by rfl) zO (fun b G hb ho => zB hLo 11 rfl HS3.1 rfl (hb 11 (by rfl))) (fun b G hb ho => zB hLo 10 rfl HS3.1 rfl (hb 10 (by rfl)))) ?_
    exact zE
  clear hLo
  intro G a4 w4 hS hH
  have HS4 : Sl a4 79 [(2, .pointer (some ⟨g1_0, 0, none⟩)), (3, .pointer (some ⟨g1_1, 0, none⟩)), (4, .pointer (some ⟨g1_2, 0, none⟩)), (5, .pointer (some ⟨g2_1, 0, none⟩)), (6, .pointer (some ⟨g3_11, 0, none⟩)), (7, .pointer (some ⟨(G 11), 0, none⟩))] := hS
  have HH4 : Held w w4 [⟨g1_0, .u64, 20, F, 42⟩, ⟨g1_1, .u64, 20, H, 42⟩, ⟨g1_2, .u64, 20, fun _ => 0, 42⟩, ⟨g2_1, .u64, 5, smL 2, 40⟩, ⟨g3_11, .u64, 5, aP F H, 40⟩, ⟨(G 11), .u64, 5, bP F H, 40⟩] := hH
  clear hS hH HS3 HH3
  generalize G 11 = g4_11 at HS4 HH4
  refine then_ ?_
  refine wp_seq ?_
  have hLo : LOk [(0, 37, .val (.pointer (some ⟨g1_0, 15, none⟩))), (1, 38, .val (.agg (FR .u64 5 (co (F) 15)))), (2, 39, .val (.pointer (some ⟨g1_1, 15, none⟩))), (3, 40, .val (.agg (FR .u64 5 (co (H) 15)))), (4, 41, .val (.agg (FR .u64 5 (mulE (co (F) 15) (co (H) 15))))), (5, 42, .val (.agg (FR .u8 32 (dB)))), (6, 43, .val (.agg (FR .u64 5 (carr (ofL (dB)))))), (7, 44, .val (.agg (FR .u64 5 (mulE (mulE (co (F) 15) (co (H) 15)) (carr (ofL (dB))))))), (8, 45, .val (.agg (FR .u64 5 (smL 2)))), (9, 46, .val (.agg (FR .u64 5 (mulE (mulE (mulE (co (F) 15) (co (H) 15)) (carr (ofL (dB)))) (smL 2))))), (10, 8, .ptr 10 0)] := lok rfl rfl
  refine yK (wE := w) (sz := 79) (n := 12) (B := [0, 1, 0, 4, 15, 0, 63, 127, 0, 511, 0, 2047]) [0, 1, 2, 3, 4, 5, 6, 7, 8, 9, 10, 11] [(2, .val (.pointer (some ⟨g1_0, 0, none⟩))), (3, .val (.pointer (some ⟨g1_1, 0, none⟩))), (4, .val (.pointer (some ⟨g1_2, 0, none⟩))), (5, .val (.pointer (some ⟨g2_1, 0, none⟩))), (6, .val (.pointer (some ⟨g3_11, 0, none⟩))), (7, .val (.pointer (some ⟨g4_11, 0, none⟩))), (8, .ptr 10 0)] _ [⟨g1_0, none, none, .u64, 20, F, F, 42⟩, ⟨g1_1, none, none, .u64, 20, H, H, 42⟩, ⟨g1_2, none, none, .u64, 20, fun _ => 0, fun _ => 0, 42⟩, ⟨g2_1, none, none, .u64, 5, smL 2, smL 2, 40⟩, ⟨g3_11, none, none, .u64, 5, aP F H, aP F H, 40⟩, ⟨g4_11, none, none, .u64, 5, bP F H, bP F H, 40⟩, ⟨0, some 10, some 11, .u64, 5, fun _ => 0, mulE (mulE (mulE (co (F) 15) (co (H) 15)) (carr (ofL (dB)))) (smL 2), 40⟩] (by rfl) rfl tabadd_4 bitsadd_4 (by kernel_rfl) (by kernel_rfl) HH4 rfl rfl hLo rfl HS4 (slS 0 rfl rfl (slS 1 rfl rfl (slS 2 rfl rfl (slS 3 rfl rfl (slS 4 rfl rfl (slS 5 rfl rfl (slL 10 (d := 10) rfl (trivial)))))))) ?_ ?_
  · show ∀ i ∈ [0, 1, 2, 3, 4, 5, 6, 7, 8, 9, 10, 11], _
    refine zA (zC 0 _ rfl rfl hLo rfl rfl (fun _ _ _ _ => rfl) (fun b G w hb ho => zT rfl (zD rfl (HS4.get 0 rfl)) (by kernel_rfl))) ?_
    refine zA (yA 1 0 _ 15 5 rfl rfl rfl rfl (fun _ _ _ _ => rfl) hLo rfl rfl rfl (by rfl) (Nat.le_of_ble_eq_true rfl) Tryd.underlying40 zO rfl (fun b G hb ho => zB hLo 0 rfl HS4.1 rfl (hb 0 (by rfl)))) ?_
    refine zA (zC 2 _ rfl rfl hLo rfl rfl (fun _ _ _ _ => rfl) (fun b G w hb ho => zT rfl (zD rfl (HS4.get 1 rfl)) (by kernel_rfl))) ?_
    refine zA (yA 3 1 _ 15 5 rfl rfl rfl rfl (fun _ _ _ _ => rfl) hLo rfl rfl rfl (by rfl) (Nat.le_of_ble_eq_true rfl) Tryd.underlying40 zO rfl (fun b G hb ho => zB hLo 2 rfl HS4.1 rfl (hb 2 (by rfl)))) ?_
    refine zA (zH 4 _ #[.agg (FR .u64 5 (co (F) 15)), .agg (FR .u64 5 (co (H) 15))] rfl rfl rfl (fun _ _ _ _ => rfl) hLo rfl rfl Tryd.func39 rfl rfl (fun b G hb ho => zU (zB hLo 1 rfl HS4.1 rfl (hb 1 (by rfl))) (zB hLo 3 rfl HS4.1 rfl (hb 3 (by rfl)))) (fun w hw => zS _ _ w (hF).2.2.2 (hH).2.2.2)) ?_
    refine zA (st_table 5 rfl rfl rfl (fun _ _ _ _ => rfl) hLo rfl rfl Tryd.underlying22 infoB3 rfl (fun w' hb => hT.at w' hb) rfl) ?_
    refine zA (zH 6 _ #[.agg (FR .u8 32 (dB))] rfl rfl rfl (fun _ _ _ _ => rfl) hLo rfl rfl Tryd.func48 rfl rfl (fun b G hb ho => args1 (zB hLo 5 rfl HS4.1 rfl (hb 5 (by rfl)))) (fun w hw => Of_elem_calls _ w dB_By)) ?_
    refine zA (zH 7 _ #[.agg (FR .u64 5 (mulE (co (F) 15) (co (H) 15))), .agg (FR .u64 5 (carr (ofL (dB))))] rfl rfl rfl (fun _ _ _ _ => rfl) hLo rfl rfl Tryd.func39 rfl rfl (fun b G hb ho => zU (zB hLo 4 rfl HS4.1 rfl (hb 4 (by rfl))) (zB hLo 6 rfl HS4.1 rfl (hb 6 (by rfl)))) (fun w hw => zS _ _ w (lmul (hF).2.2.2 (hH).2.2.2) (lof dB_By))) ?_
    refine zA (zG 8 3 _ rfl rfl rfl rfl (fun _ _ _ _ => rfl) hLo rfl rfl rfl (by rfl) Tryd.underlying40 zO rfl (fun b G hb ho => zD rfl (HS4.get 3 rfl))) ?_
    refine zA (zH 9 _ #[.agg (FR .u64 5 (mulE (mulE (co (F) 15) (co (H) 15)) (carr (ofL (dB))))), .agg (FR .u64 5 (smL 2))] rfl rfl rfl (fun _ _ _ _ => rfl) hLo rfl rfl Tryd.func39 rfl rfl (fun b G hb ho => zU (zB hLo 7 rfl HS4.1 rfl (hb 7 (by rfl))) (zB hLo 8 rfl HS4.1 rfl (hb 8 (by rfl)))) (fun w hw => zS _ _ w (lmul (lmul (hF).2.2.2 (hH).2.2.2) (lof dB_By)) (smL_Lm 2 (by omega)))) ?_
    refine zA (zK 10 6 .u64 5 40 (some 11) _ _ rfl rfl (fun _ _ _ _ => rfl) rfl hLo rfl rfl rfl rfl (by rfl) (fun b G w _ _ => by kernel_rfl)) ?_
    refine zA (zI 6 _ rfl rfl rfl rfl rfl (fun _ _ _ _ => rfl) rfl rfl rfl (by rfl) zO (fun b G hb ho => zB hLo 10 rfl HS4.1 rfl (hb 10 (by rfl))) (fun b G hb ho => zB hLo 9 rfl HS4.1 rfl (hb 9 (by rfl)))) ?_
    exact zE
  clear hLo
  intro G a5 w5 hS hH
  have HS5 : Sl a5 79 [(2, .pointer (some ⟨g1_0, 0, none⟩)), (3, .pointer (some ⟨g1_1, 0, none⟩)), (4, .pointer (some ⟨g1_2, 0, none⟩)), (5, .pointer (some ⟨g2_1, 0, none⟩)), (6, .pointer (some ⟨g3_11, 0, none⟩)), (7, .pointer (some ⟨g4_11, 0, none⟩)), (8, .pointer (some ⟨(G 10), 0, none⟩))] := hS
  have HH5 : Held w w5 [⟨g1_0, .u64, 20, F, 42⟩, ⟨g1_1, .u64, 20, H, 42⟩, ⟨g1_2, .u64, 20, fun _ => 0, 42⟩, ⟨g2_1, .u64, 5, smL 2, 40⟩, ⟨g3_11, .u64, 5, aP F H, 40⟩, ⟨g4_11, .u64, 5, bP F H, 40⟩, ⟨(G 10), .u64, 5, cP F H, 40⟩] := hH
  clear hS hH HS4 HH4
  generalize G 10 = g5_10 at HS5 HH5
  refine then_ ?_
  refine wp_seq ?_
  have hLo : LOk [(0, 47, .val (.pointer (some ⟨g1_0, 10, none⟩))), (1, 48, .val (.agg (FR .u64 5 (co (F) 10)))), (2, 49, .val (.pointer (some ⟨g1_1, 10, none⟩))), (3, 50, .val (.agg (FR .u64 5 (co (H) 10)))), (4, 51, .val (.agg (FR .u64 5 (mulE (co (F) 10) (co (H) 10))))), (5, 52, .val (.agg (FR .u64 5 (smL 2)))), (6, 53, .val (.agg (FR .u64 5 (mulE (mulE (co (F) 10) (co (H) 10)) (smL 2))))), (7, 9, .ptr 7 0)] := lok rfl rfl
  refine yK (wE := w) (sz := 79) (n := 9) (B := [0, 1, 0, 4, 15, 0, 63, 0, 255]) [0, 1, 2, 3, 4, 5, 6, 7, 8] [(2, .val (.pointer (some ⟨g1_0, 0, none⟩))), (3, .val (.pointer (some ⟨g1_1, 0, none⟩))), (4, .val (.pointer (some ⟨g1_2, 0, none⟩))), (5, .val (.pointer (some ⟨g2_1, 0, none⟩))), (6, .val (.pointer (some ⟨g3_11, 0, none⟩))), (7, .val (.pointer (some ⟨g4_11, 0, none⟩))), (8, .val (.pointer (some ⟨g5_10, 0, none⟩))), (9, .ptr 7 0)] _ [⟨g1_0, none, none, .u64, 20, F, F, 42⟩, ⟨g1_1, none, none, .u64, 20, H, H, 42⟩, ⟨g1_2, none, none, .u64, 20, fun _ => 0, fun _ => 0, 42⟩, ⟨g2_1, none, none, .u64, 5, smL 2, smL 2, 40⟩, ⟨g3_11, none, none, .u64, 5, aP F H, aP F H, 40⟩, ⟨g4_11, none, none, .u64, 5, bP F H, bP F H, 40⟩, ⟨g5_10, none, none, .u64, 5, cP F H, cP F H, 40⟩, ⟨0, some 7, some 8, .u64, 5, fun _ => 0, mulE (mulE (co (F) 10) (co (H) 10)) (smL 2), 40⟩] (by rfl) rfl tabadd_5 bitsadd_5 (by kernel_rfl) (by kernel_rfl) HH5 rfl rfl hLo rfl HS5 (slS 0 rfl rfl (slS 1 rfl rfl (slS 2 rfl rfl (slS 3 rfl rfl (slS 4 rfl rfl (slS 5 rfl rfl (slS 6 rfl rfl (slL 7 (d := 7) rfl (trivial))))))))) ?_ ?_
  · show ∀ i ∈ [0, 1, 2, 3, 4, 5, 6, 7, 8], _
    refine zA (zC 0 _ rfl rfl hLo rfl rfl (fun _ _ _ _ => rfl) (fun b G w hb ho => zT rfl (zD rfl (HS5.get 0 rfl)) (by kernel_rfl))) ?_
    refine zA (yA 1 0 _ 10 5 rfl rfl rfl rfl (fun _ _ _ _ => rfl) hLo rfl rfl rfl (by rfl) (Nat.le_of_ble_eq_true rfl) Tryd.underlying40 zO rfl (fun b G hb ho => zB hLo 0 rfl HS5.1 rfl (hb 0 (by rfl)))) ?_
    refine zA (zC 2 _ rfl rfl hLo rfl rfl (fun _ _ _ _ => rfl) (fun b G w hb ho => zT rfl (zD rfl (HS5.get 1 rfl)) (by kernel_rfl))) ?_
    refine zA (yA 3 1 _ 10 5 rfl rfl rfl rfl (fun _ _ _ _ => rfl) hLo rfl rfl rfl (by rfl) (Nat.le_of_ble_eq_true rfl) Tryd.underlying40 zO rfl (fun b G hb ho => zB hLo 2 rfl HS5.1 rfl (hb 2 (by rfl)))) ?_
    refine zA (zH 4 _ #[.agg (FR .u64 5 (co (F) 10)), .agg (FR .u64 5 (co (H) 10))] rfl rfl rfl (fun _ _ _ _ => rfl) hLo rfl rfl Tryd.func39 rfl rfl (fun b G hb ho => zU (zB hLo 1 rfl HS5.1 rfl (hb 1 (by rfl))) (zB hLo 3 rfl HS5.1 rfl (hb 3 (by rfl)))) (fun w hw => zS _ _ w (hF).2.2.1 (hH).2.2.1)) ?_
    refine zA (zG 5 3 _ rfl rfl rfl rfl (fun _ _ _ _ => rfl) hLo rfl rfl rfl (by rfl) Tryd.underlying40 zO rfl (fun b G hb ho => zD rfl (HS5.get 3 rfl))) ?_
    refine zA (zH 6 _ #[.agg (FR .u64 5 (mulE (co (F) 10) (co (H) 10))), .agg (FR .u64 5 (smL 2))] rfl rfl rfl (fun _ _ _ _ => rfl) hLo rfl rfl Tryd.func39 rfl rfl (fun b G hb ho => zU (zB hLo 4 rfl HS5.1 rfl (hb 4 (by rfl))) (zB hLo 5 rfl HS5.1 rfl (hb 5 (by rfl)))) (fun w hw => zS _ _ w (lmul (hF).2.2.1 (hH).2.2.1) (smL_Lm 2 (by omega)))) ?_
    refine zA (zK 7 7 .u64 5 40 (some 8) _ _ rfl rfl (fun _ _ _ _ => rfl) rfl hLo rfl rfl rfl rfl (by rfl) (fun b G w _ _ => by kernel_rfl)) ?_
    refine zA (zI 7 _ rfl rfl rfl rfl rfl (fun _ _ _ _ => rfl) rfl rfl rfl (by rfl) zO (fun b G hb ho => zB hLo 7 rfl HS5.1 rfl (hb 7 (by rfl))) (fun b G hb ho => zB hLo 6 rfl HS5.1 rfl (hb 6 (by rfl)))) ?_
    exact zE
  clear hLo
  intro G a6 w6 hS hH
  have HS6 : Sl a6 79 [(2, .pointer (some ⟨g1_0, 0, none⟩)), (3, .pointer (some ⟨g1_1, 0, none⟩)), (4, .pointer (some ⟨g1_2, 0, none⟩)), (5, .pointer (some ⟨g2_1, 0, none⟩)), (6, .pointer (some ⟨g3_11, 0, none⟩)), (7, .pointer (some ⟨g4_11, 0, none⟩)), (8, .pointer (some ⟨g5_10, 0, none⟩)), (9, .pointer (some ⟨(G 7), 0, none⟩))] := hS
  have HH6 : Held w w6 [⟨g1_0, .u64, 20, F, 42⟩, ⟨g1_1, .u64, 20, H, 42⟩, ⟨g1_2, .u64, 20, fun _ => 0, 42⟩, ⟨g2_1, .u64, 5, smL 2, 40⟩, ⟨g3_11, .u64, 5, aP F H, 40⟩, ⟨g4_11, .u64, 5, bP F H, 40⟩, ⟨g5_10, .u64, 5, cP F H, 40⟩, ⟨(G 7), .u64, 5, eP F H, 40⟩] := hH
  clear hS hH HS5 HH5
  generalize G 7 = g6_7 at HS6 HH6
  refine then_ ?_
  refine wp_seq ?_
  have hLo : LOk [(0, 54, .val (.agg (FR .u64 5 (bP F H)))), (1, 55, .val (.agg (FR .u64 5 (aP F H)))), (2, 56, .val (.agg (FR .u64 5 (subE (bP F H) (aP F H))))), (3, 57, .val (.agg (FR .u64 5 (eP F H)))), (4, 58, .val (.agg (FR .u64 5 (cP F H)))), (5, 59, .val (.agg (FR .u64 5 (subE (eP F H) (cP F H))))), (6, 60, .val (.agg (FR .u64 5 (eP F H)))), (7, 61, .val (.agg (FR .u64 5 (cP F H)))), (8, 62, .val (.agg (FR .u64 5 (addE (eP F H) (cP F H))))), (9, 63, .val (.agg (FR .u64 5 (bP F H)))), (10, 64, .val (.agg (FR .u64 5 (aP F H)))), (11, 65, .val (.agg (FR .u64 5 (addE (bP F H) (aP F H))))), (12, 10, .ptr 12 0), (13, 11, .ptr 13 0), (14, 12, .ptr 14 0), (15, 13, .ptr 15 0)] := lok rfl rfl
  refine yK (wE := w) (sz := 79) (n := 20) (B := [0, 0, 3, 0, 0, 31, 0, 0, 255, 0, 0, 2047, 0, 0, 0, 0, 65535, 131071, 262143, 524287]) [0, 1, 2, 3, 4, 5, 6, 7, 8, 9, 10, 11, 12, 13, 14, 15, 16, 17, 18, 19] [(4, .val (.pointer (some ⟨g1_2, 0, none⟩))), (10, .ptr 12 0), (11, .ptr 13 0), (12, .ptr 14 0), (13, .ptr 15 0)] _ [⟨g1_0, none, none, .u64, 20, F, F, 42⟩, ⟨g1_1, none, none, .u64, 20, H, H, 42⟩, ⟨g1_2, none, none, .u64, 20, fun _ => 0, fun _ => 0, 42⟩, ⟨g2_1, none, none, .u64, 5, smL 2, smL 2, 40⟩, ⟨g3_11, none, none, .u64, 5, aP F H, aP F H, 40⟩, ⟨g4_11, none, none, .u64, 5, bP F H, bP F H, 40⟩, ⟨g5_10, none, none, .u64, 5, cP F H, cP F H, 40⟩, ⟨g6_7, none, none, .u64, 5, eP F H, eP F H, 40⟩, ⟨0, some 12, some 16, .u64, 5, fun _ => 0, subE (bP F H) (aP F H), 40⟩, ⟨0, some 13, some 17, .u64, 5, fun _ => 0, subE (eP F H) (cP F H), 40⟩, ⟨0, some 14, some 18, .u64, 5, fun _ => 0, addE (eP F H) (cP F H), 40⟩, ⟨0, some 15, some 19, .u64, 5, fun _ => 0, addE (bP F H) (aP F H), 40⟩] (by rfl) rfl tabadd_6 bitsadd_6 (by kernel_rfl) (by kernel_rfl) HH6 rfl rfl hLo rfl HS6 (slS 2 rfl rfl (slL 12 (d := 12) rfl (slL 13 (d := 13) rfl (slL 14 (d := 14) rfl (slL 15 (d := 15) rfl (trivial)))))) ?_ ?_
  · show ∀ i ∈ [0, 1, 2, 3, 4, 5, 6, 7, 8, 9, 10, 11, 12, 13, 14, 15, 16, 17, 18, 19], _
    refine zA (zG 0 5 _ rfl rfl rfl rfl (fun _ _ _ _ => rfl) hLo rfl rfl rfl (by rfl) Tryd.underlying40 zO rfl (fun b G hb ho => zD rfl (HS6.get 5 rfl))) ?_
    refine zA (zG 1 4 _ rfl rfl rfl rfl (fun _ _ _ _ => rfl) hLo rfl rfl rfl (by rfl) Tryd.underlying40 zO rfl (fun b G hb ho => zD rfl (HS6.get 4 rfl))) ?_
    refine zA (zH 2 _ #[.agg (FR .u64 5 (bP F H)), .agg (FR .u64 5 (aP F H))] rfl rfl rfl (fun _ _ _ _ => rfl) hLo rfl rfl Tryd.func50 rfl rfl (fun b G hb ho => zU (zB hLo 0 rfl HS6.1 rfl (hb 0 (by rfl))) (zB hLo 1 rfl HS6.1 rfl (hb 1 (by rfl)))) (fun w hw => subE_c _ _ w (bP_Lm hF hH) (aP_Lm hF hH))) ?_
    refine zA (zG 3 7 _ rfl rfl rfl rfl (fun _ _ _ _ => rfl) hLo rfl rfl rfl (by rfl) Tryd.underlying40 zO rfl (fun b G hb ho => zD rfl (HS6.get 7 rfl))) ?_
    refine zA (zG 4 6 _ rfl rfl rfl rfl (fun _ _ _ _ => rfl) hLo rfl rfl rfl (by rfl) Tryd.underlying40 zO rfl (fun b G hb ho => zD rfl (HS6.get 6 rfl))) ?_
    refine zA (zH 5 _ #[.agg (FR .u64 5 (eP F H)), .agg (FR .u64 5 (cP F H))] rfl rfl rfl (fun _ _ _ _ => rfl) hLo rfl rfl Tryd.func50 rfl rfl (fun b G hb ho => zU (zB hLo 3 rfl HS6.1 rfl (hb 3 (by rfl))) (zB hLo 4 rfl HS6.1 rfl (hb 4 (by rfl)))) (fun w hw => subE_c _ _ w (eP_Lm hF hH) (cP_Lm hF hH))) ?_
    refine zA (zG 6 7 _ rfl rfl rfl rfl (fun _ _ _ _ => rfl) hLo rfl rfl rfl (by rfl) Tryd.underlying40 zO rfl (fun b G hb ho => zD rfl (HS6.get 7 rfl))) ?_
    refine zA (zG 7 6 _ rfl rfl rfl rfl (fun _ _ _ _ => rfl) hLo rfl rfl rfl (by rfl) Tryd.underlying40 zO rfl (fun b G hb ho => zD rfl (HS6.get 6 rfl))) ?_
    refine zA (zH 8 _ #[.agg (FR .u64 5 (eP F H)), .agg (FR .u64 5 (cP F H))] rfl rfl rfl (fun _ _ _ _ => rfl) hLo rfl rfl Tryd.func51 rfl rfl (fun b G hb ho => zU (zB hLo 6 rfl HS6.1 rfl (hb 6 (by rfl))) (zB hLo 7 rfl HS6.1 rfl (hb 7 (by rfl)))) (fun w hw => addE_c _ _ w (eP_Lm hF hH) (cP_Lm hF hH))) ?_
    refine zA (zG 9 5 _ rfl rfl rfl rfl (fun _ _ _ _ => rfl) hLo rfl rfl rfl (by rfl) Tryd.underlying40 zO rfl (fun b G hb ho => zD rfl (HS6.get 5 rfl))) ?_
    refine zA (zG 10 4 _ rfl rfl rfl rfl (fun _ _ _ _ => rfl) hLo rfl rfl rfl (by rfl) Tryd.underlying40 zO rfl (fun b G hb ho => zD rfl (HS6.get 4 rfl))) ?_
    refine zA (zH 11 _ #[.agg (FR .u64 5 (bP F H)), .agg (FR .u64 5 (aP F H))] rfl rfl rfl (fun _ _ _ _ => rfl) hLo rfl rfl Tryd.func51 rfl rfl (fun b G hb ho => zU (zB hLo 9 rfl HS6.1 rfl (hb 9 (by rfl))) (zB hLo 10 rfl HS6.1 rfl (hb 10 (by rfl)))) (fun w hw => addE_c _ _ w (bP_Lm hF hH) (aP_Lm hF hH))) ?_
    refine zA (zK 12 8 .u64 5 40 (some 16) _ _ rfl rfl (fun _ _ _ _ => rfl) rfl hLo rfl rfl rfl rfl (by rfl) (fun b G w _ _ => by kernel_rfl)) ?_
    refine zA (zK 13 9 .u64 5 40 (some 17) _ _ rfl rfl (fun _ _ _ _ => rfl) rfl hLo rfl rfl rfl rfl (by rfl) (fun b G w _ _ => by kernel_rfl)) ?_
    refine zA (zK 14 10 .u64 5 40 (some 18) _ _ rfl rfl (fun _ _ _ _ => rfl) rfl hLo rfl rfl rfl rfl (by rfl) (fun b G w _ _ => by kernel_rfl)) ?_
    refine zA (zK 15 11 .u64 5 40 (some 19) _ _ rfl rfl (fun _ _ _ _ => rfl) rfl hLo rfl rfl rfl rfl (by rfl) (fun b G w _ _ => by kernel_rfl)) ?_
    refine zA (zI 8 _ rfl rfl rfl rfl rfl (fun _ _ _ _ => rfl) rfl rfl rfl (by rfl) zO (fun b G hb ho => zB hLo 12 rfl HS6.1 rfl (hb 12 (by rfl))) (fun b G hb ho => zB hLo 2 rfl HS6.1 rfl (hb 2 (by rfl)))) ?_
    refine zA (zI 9 _ rfl rfl rfl rfl rfl (fun _ _ _ _ => rfl) rfl rfl rfl (by rfl) zO (fun b G hb ho => zB hLo 13 rfl HS6.1 rfl (hb 13 (by rfl))) (fun b G hb ho => zB hLo 5 rfl HS6.1 rfl (hb 5 (by rfl)))) ?_
    refine zA (zI 10 _ rfl rfl rfl rfl rfl (fun _ _ _ _ => rfl) rfl rfl rfl (by rfl) zO (fun b G hb ho => zB hLo 14 rfl HS6.1 rfl (hb 14 (by rfl))) (fun b G hb ho => zB hLo 8 rfl HS6.1 rfl (hb 8 (by rfl)))) ?_
    refine zA (zI 11 _ rfl rfl rfl rfl rfl (fun _ _ _ _ => rfl) rfl rfl rfl (by rfl) zO (fun b G hb ho => zB hLo 15 rfl HS6.1 rfl (hb 15 (by rfl))) (fun b G hb ho => zB hLo 11 rfl HS6.1 rfl (hb 11 (by rfl)))) ?_
    exact zE
  clear hLo
  intro G a7 w7 hS hH
  have HS7 : Sl a7 79 [(4, .pointer (some ⟨g1_2, 0, none⟩)), (10, .pointer (some ⟨(G 12), 0, none⟩)), (11, .pointer (some ⟨(G 13), 0, none⟩)), (12, .pointer (some ⟨(G 14), 0, none⟩)), (13, .pointer (some ⟨(G 15), 0, none⟩))] := hS
  have HH7 : Held w w7 [⟨g1_0, .u64, 20, F, 42⟩, ⟨g1_1, .u64, 20, H, 42⟩, ⟨g1_2, .u64, 20, fun _ => 0, 42⟩, ⟨g2_1, .u64, 5, smL 2, 40⟩, ⟨g3_11, .u64, 5, aP F H, 40⟩, ⟨g4_11, .u64, 5, bP F H, 40⟩, ⟨g5_10, .u64, 5, cP F H, 40⟩, ⟨g6_7, .u64, 5, eP F H, 40⟩, ⟨(G 12), .u64, 5, fP F H, 40⟩, ⟨(G 13), .u64, 5, gP F H, 40⟩, ⟨(G 14), .u64, 5, hP F H, 40⟩, ⟨(G 15), .u64, 5, iP F H, 40⟩] := hH
  clear hS hH HS6 HH6
  generalize G 12 = g7_12 at HS7 HH7
  generalize G 13 = g7_13 at HS7 HH7
  generalize G 14 = g7_14 at HS7 HH7
  generalize G 15 = g7_15 at HS7 HH7
  refine then_ ?_
  refine wp_seq ?_
  have hLo : LOk [(0, 66, .val (.agg (FR .u64 5 (fP F H)))), (1, 67, .val (.agg (FR .u64 5 (gP F H)))), (2, 68, .val (.agg (FR .u64 5 (mulE (fP F H) (gP F H))))), (3, 69, .val (.agg (FR .u64 5 (hP F H)))), (4, 70, .val (.agg (FR .u64 5 (iP F H)))), (5, 71, .val (.agg (FR .u64 5 (mulE (hP F H) (iP F H))))), (6, 72, .val (.agg (FR .u64 5 (gP F H)))), (7, 73, .val (.agg (FR .u64 5 (hP F H)))), (8, 74, .val (.agg (FR .u64 5 (mulE (gP F H) (hP F H))))), (9, 75, .val (.agg (FR .u64 5 (fP F H)))), (10, 76, .val (.agg (FR .u64 5 (iP F H)))), (11, 77, .val (.agg (FR .u64 5 (mulE (fP F H) (iP F H))))), (12, 78, .val (.agg (FR .u64 20 (pt4 (mulE (fP F H) (gP F H)) (mulE (hP F H) (iP F H)) (mulE (gP F H) (hP F H)) (mulE (fP F H) (iP F H))))))] := lok rfl rfl
  refine yK (wE := w) (sz := 79) (n := 14) (B := [0, 0, 3, 0, 0, 31, 0, 0, 255, 0, 0, 2047, 4095, 8191]) [0, 1, 2, 3, 4, 5, 6, 7, 8, 9, 10, 11, 12, 13] [(4, .val (.pointer (some ⟨g1_2, 0, none⟩)))] _ [⟨g1_0, none, none, .u64, 20, F, F, 42⟩, ⟨g1_1, none, none, .u64, 20, H, H, 42⟩, ⟨g1_2, none, some 13, .u64, 20, fun _ => 0, pt4 (mulE (fP F H) (gP F H)) (mulE (hP F H) (iP F H)) (mulE (gP F H) (hP F H)) (mulE (fP F H) (iP F H)), 42⟩, ⟨g2_1, none, none, .u64, 5, smL 2, smL 2, 40⟩, ⟨g3_11, none, none, .u64, 5, aP F H, aP F H, 40⟩, ⟨g4_11, none, none, .u64, 5, bP F H, bP F H, 40⟩, ⟨g5_10, none, none, .u64, 5, cP F H, cP F H, 40⟩, ⟨g6_7, none, none, .u64, 5, eP F H, eP F H, 40⟩, ⟨g7_12, none, none, .u64, 5, fP F H, fP F H, 40⟩, ⟨g7_13, none, none, .u64, 5, gP F H, gP F H, 40⟩, ⟨g7_14, none, none, .u64, 5, hP F H, hP F H, 40⟩, ⟨g7_15, none, none, .u64, 5, iP F H, iP F H, 40⟩] (by rfl) rfl tabadd_7 bitsadd_7 (by kernel_rfl) (by kernel_rfl) HH7 rfl rfl hLo rfl HS7 (slS 0 rfl rfl (trivial)) ?_ ?_
  · show ∀ i ∈ [0, 1, 2, 3, 4, 5, 6, 7, 8, 9, 10, 11, 12, 13], _
    refine zA (zG 0 8 _ rfl rfl rfl rfl (fun _ _ _ _ => rfl) hLo rfl rfl rfl (by rfl) Tryd.underlying40 zO rfl (fun b G hb ho => zD rfl (HS7.get 1 rfl))) ?_
    refine zA (zG 1 9 _ rfl rfl rfl rfl (fun _ _ _ _ => rfl) hLo rfl rfl rfl (by rfl) Tryd.underlying40 zO rfl (fun b G hb ho => zD rfl (HS7.get 2 rfl))) ?_
    refine zA (zH 2 _ #[.agg (FR .u64 5 (fP F H)), .agg (FR .u64 5 (gP F H))] rfl rfl rfl (fun _ _ _ _ => rfl) hLo rfl rfl Tryd.func39 rfl rfl (fun b G hb ho => zU (zB hLo 0 rfl HS7.1 rfl (hb 0 (by rfl))) (zB hLo 1 rfl HS7.1 rfl (hb 1 (by rfl)))) (fun w hw => zS _ _ w (fP_Lm hF hH) (gP_Lm hF hH))) ?_
    refine zA (zG 3 10 _ rfl rfl rfl rfl (fun _ _ _ _ => rfl) hLo rfl rfl rfl (by rfl) Tryd.underlying40 zO rfl (fun b G hb ho => zD rfl (HS7.get 3 rfl))) ?_
    refine zA (zG 4 11 _ rfl rfl rfl rfl (fun _ _ _ _ => rfl) hLo rfl rfl rfl (by rfl) Tryd.underlying40 zO rfl (fun b G hb ho => zD rfl (HS7.get 4 rfl))) ?_
    refine zA (zH 5 _ #[.agg (FR .u64 5 (hP F H)), .agg (FR .u64 5 (iP F H))] rfl rfl rfl (fun _ _ _ _ => rfl) hLo rfl rfl Tryd.func39 rfl rfl (fun b G hb ho => zU (zB hLo 3 rfl HS7.1 rfl (hb 3 (by rfl))) (zB hLo 4 rfl HS7.1 rfl (hb 4 (by rfl)))) (fun w hw => zS _ _ w (hP_Lm hF hH) (iP_Lm hF hH))) ?_
    refine zA (zG 6 9 _ rfl rfl rfl rfl (fun _ _ _ _ => rfl) hLo rfl rfl rfl (by rfl) Tryd.underlying40 zO rfl (fun b G hb ho => zD rfl (HS7.get 2 rfl))) ?_
    refine zA (zG 7 10 _ rfl rfl rfl rfl (fun _ _ _ _ => rfl) hLo rfl rfl rfl (by rfl) Tryd.underlying40 zO rfl (fun b G hb ho => zD rfl (HS7.get 3 rfl))) ?_
    refine zA (zH 8 _ #[.agg (FR .u64 5 (gP F H)), .agg (FR .u64 5 (hP F H))] rfl rfl rfl (fun _ _ _ _ => rfl) hLo rfl rfl Tryd.func39 rfl rfl (fun b G hb ho => zU (zB hLo 6 rfl HS7.1 rfl (hb 6 (by rfl))) (zB hLo 7 rfl HS7.1 rfl (hb 7 (by rfl)))) (fun w hw => zS _ _ w (gP_Lm hF hH) (hP_Lm hF hH))) ?_
    refine zA (zG 9 8 _ rfl rfl rfl rfl (fun _ _ _ _ => rfl) hLo rfl rfl rfl (by rfl) Tryd.underlying40 zO rfl (fun b G hb ho => zD rfl (HS7.get 1 rfl))) ?_
    refine zA (zG 10 11 _ rfl rfl rfl rfl (fun _ _ _ _ => rfl) hLo rfl rfl rfl (by rfl) Tryd.underlying40 zO rfl (fun b G hb ho => zD rfl (HS7.get 4 rfl))) ?_
    refine zA (zH 11 _ #[.agg (FR .u64 5 (fP F H)), .agg (FR .u64 5 (iP F H))] rfl rfl rfl (fun _ _ _ _ => rfl) hLo rfl rfl Tryd.func39 rfl rfl (fun b G hb ho => zU (zB hLo 9 rfl HS7.1 rfl (hb 9 (by rfl))) (zB hLo 10 rfl HS7.1 rfl (hb 10 (by rfl)))) (fun w hw => zS _ _ w (fP_Lm hF hH) (iP_Lm hF hH))) ?_
    refine zA (zC 12 _ rfl rfl hLo rfl rfl (fun _ _ _ _ => rfl) (fun b G w hb ho => zZ rfl (parts4 (zB hLo 2 rfl HS7.1 rfl (hb 2 (by rfl))) (zB hLo 5 rfl HS7.1 rfl (hb 5 (by rfl))) (zB hLo 8 rfl HS7.1 rfl (hb 8 (by rfl))) (zB hLo 11 rfl HS7.1 rfl (hb 11 (by rfl)))) (build_pt _ _ _ _ _))) ?_
    refine zA (zI 2 _ rfl rfl rfl rfl rfl (fun _ _ _ _ => rfl) rfl rfl rfl (by rfl) infoPt (fun b G hb ho => zD rfl (HS7.get 0 rfl)) (fun b G hb ho => zB hLo 12 rfl HS7.1 rfl (hb 12 (by rfl)))) ?_
    exact zE
  clear hLo
  intro G a8 w8 hS hH
  have HS8 : Sl a8 79 [(4, .pointer (some ⟨g1_2, 0, none⟩))] := hS
  have HH8 : Held w w8 [⟨g1_0, .u64, 20, F, 42⟩, ⟨g1_1, .u64, 20, H, 42⟩, ⟨g1_2, .u64, 20, addP F H, 42⟩, ⟨g2_1, .u64, 5, smL 2, 40⟩, ⟨g3_11, .u64, 5, aP F H, 40⟩, ⟨g4_11, .u64, 5, bP F H, 40⟩, ⟨g5_10, .u64, 5, cP F H, 40⟩, ⟨g6_7, .u64, 5, eP F H, 40⟩, ⟨g7_12, .u64, 5, fP F H, 40⟩, ⟨g7_13, .u64, 5, gP F H, 40⟩, ⟨g7_14, .u64, 5, hP F H, 40⟩, ⟨g7_15, .u64, 5, iP F H, 40⟩] := hH
  clear hS hH HS7 HH7
  refine then_ ?_
  exact ret_row rfl HS8.2.1 (HS8.get 0 rfl) (HH8.row 2 rfl) Tryd.underlying42 rfl infoPt ⟨rfl, HH8.1⟩
theorem ofR_c (b : Nat → Int) (w : World) (hb : By b) : Calls Tryd.prog 58 #[.string (sOf b)] w fun e w' => e = .returned (.agg (FR .i64 16 (numD b))) ∧ Below w.heap.size w w' := by
  refine (Of_calls (sOf b) w (sOf_size b)).mono ?_
  rintro e w' ⟨rfl, h⟩
  exact ⟨by rw [FR_congr .i64 16 (bD (sOf b)) (numD b) (fun i hi => by unfold bD numD; rw [sB_sOf b hb _ (by omega), sB_sOf b hb _ (by omega)])], h⟩
theorem bytesR_c (f : Nat → Int) (w : World) (hf : Rn f) : Calls Tryd.prog 44 #[.agg (FR .i64 16 f)] w fun e w' => e = .returned (.string (sOf (dig 256 (V16 f % PP)))) ∧ Below w.heap.size w w' := by
  rw [← ref_bytes_str]; exact ref_bytes_calls f w hf.cb
def dR : Nat → Int := numD dB
theorem dR_Re : Re dR (N32 dB) := Re.num dB dB_By
theorem dR_Rn : Rn dR := dR_Re.1
theorem step_mk {P : Program} {ops : Array Oper} {rest : List Oper} {o : Oper} {a : Act} {w : World} {Q : Exit → Act → World → Prop} (m : Nat) (ob : Obj) {t : TypeId} {n : Nat} {ps : Array (Nat × Operand)} (ho : o.op = .buildSlice t n ps) (hgd : o.guard = none)
    (hr : (execOp a.eval o).run P w = .ok (.value (.slice (some ⟨w.heap.size, 0, none⟩) m m)) (w.alloc ob)) (h : wpList P ops Q rest (a.put o.dst (.slice (some ⟨w.heap.size, 0, none⟩) m m)) (w.alloc ob)) : wpList P ops Q (o :: rest) a w := by
  refine wpList_plain hgd fun K hK => ?_
  unfold Oper.wp
  rw [hr]
  exact hK _ _ h
set_option maxRecDepth 100000 in
theorem D_calls (w : World) : Calls Tryd.prog 62 #[] w fun e w' => e = .returned (.agg (FR .i64 16 dR)) ∧ Below w.heap.size w w' := by
  have HC := Aside0.mk (fun w => ofR_c dB w dB_By)
  go_enter Tryd.func62, Tryd.ntmps62
  have HR0 := Aside0.mk ((Row.new w .i64 16 (fun _ => 0) 50).alloc (.cells (FR .u8 32 dB) 5))
  have HB0 := Aside0.mk (bel_two w (.cells (FR .i64 16 fun _ => 0) 50) (.cells (FR .u8 32 dB) 5))
  have hcv : ∀ o, (convert 25 9 (.slice (some ⟨w.heap.size + 1, 0, none⟩) 32 32)).run Tryd.prog ((w.alloc o).alloc (.cells (FR .u8 32 dB) 5)) = .ok (.string (sOf dB)) ((w.alloc o).alloc (.cells (FR .u8 32 dB) 5)) := fun o => conv_row (show Row ((w.alloc o).alloc (.cells (FR .u8 32 dB) 5)) (w.heap.size + 1) .u8 32 dB 5 from heap_alloc2_new w _ _)
  have hcv2 : ∀ o, (convert 25 9 (.slice (some ⟨(w.alloc o).heap.size, 0, none⟩) 32 32)).run Tryd.prog ((w.alloc o).alloc (.cells (FR .u8 32 dB) 5)) = .ok (.string (sOf dB)) ((w.alloc o).alloc (.cells (FR .u8 32 dB) 5)) := fun o => conv_row (Row.new (w.alloc o) .u8 32 dB 5)
  go_wp2_with (refine step_mk 32 (.cells (FR .u8 32 dB) 5) rfl rfl (by kernel_rfl) ?_)
  refine (HC.out _).mono ?_
  rintro e w1 ⟨rfl, hb⟩
  have HZ1 := Aside0.mk (HR0.out.below hb HR0.out.lt)
  have HB1 := Aside0.mk (HB0.out.trans (hb.mono (by simp; omega)))
  clear hb HR0 HB0 hcv hcv2
  go_wp2_with (refine zQ _ HZ1.out zL rfl rfl rfl rfl rfl ?_; intro w3 hs hr; have HS3 := Aside0.mk hs; have HR3 := Aside0.mk hr; clear hs hr)
  refine bodyPost_ret (zY rfl HR3.out rfl Tryd.underlying50 rfl zL) rfl ?_
  exact ⟨rfl, HS3.out.bel _ _ (by omega) HB1.out⟩
def oneR : Nat → Int := zM (fun i => if i = 0 then 1 else 0) 16
def zeroRP : Nat → Int := pr4 (fun _ => 0) oneR oneR fun _ => 0
theorem zero_pr (w : World) : Calls Tryd.prog 47 #[] w fun e w' => e = .returned (.agg (FR .i64 64 zeroRP)) ∧ Below w.heap.size w w' := by
  refine enter_ 4 Tryd.func47 rfl rfl (fun a0 hS => ?_)
  have HS0 : Sl a0 4 [] := hS
  have HH0 : Held w w [] := Held.first w
  clear hS
  refine wp_seq ?_
  have hLo : LOk [(0, 0, .ptr 0 0)] := lok rfl rfl
  refine zJ (wE := w) (sz := 4) (n := 1) [0] [(0, .ptr 0 0)] _ [⟨0, some 0, none, .i64, 64, fun _ => 0, fun _ => 0, 52⟩] rfl (by rfl) HH0 rfl rfl hLo rfl HS0 (slL 0 (d := 0) rfl (trivial)) ?_ ?_
  · show ∀ i ∈ [0], _
    refine zA (zK 0 0 .i64 64 52 none _ _ rfl rfl (fun _ _ _ _ => rfl) rfl hLo rfl rfl rfl rfl (by rfl) (fun b G w _ _ => by kernel_rfl)) ?_
    exact zE
  clear hLo
  intro G a1 w1 hS hH
  have HS1 : Sl a1 4 [(0, .pointer (some ⟨(G 0), 0, none⟩))] := hS
  have HH1 : Held w w1 [⟨(G 0), .i64, 64, fun _ => 0, 52⟩] := hH
  clear hS hH HS0 HH0
  generalize G 0 = g1_0 at HS1 HH1
  refine then_ ?_
  refine wp_seq ?_
  have hLo : LOk [(0, 1, .val (.agg (FR .i64 16 (zM (fun i => if i = 0 then 1 else 0) 16)))), (1, 2, .val (.agg (FR .i64 16 (zM (fun i => if i = 0 then 1 else 0) 16)))), (2, 3, .val (.agg (FR .i64 64 (pr4 (fun _ => 0) (zM (fun i => if i = 0 then 1 else 0) 16) (zM (fun i => if i = 0 then 1 else 0) 16) fun _ => 0))))] := lok rfl rfl
  refine zJ (wE := w) (sz := 4) (n := 4) [0, 1, 3, 7] [(0, .val (.pointer (some ⟨g1_0, 0, none⟩)))] _ [⟨g1_0, none, some 3, .i64, 64, fun _ => 0, pr4 (fun _ => 0) (zM (fun i => if i = 0 then 1 else 0) 16) (zM (fun i => if i = 0 then 1 else 0) 16) fun _ => 0, 52⟩] rfl (by rfl) HH1 rfl rfl hLo rfl HS1 (slS 0 rfl rfl (trivial)) ?_ ?_
  · show ∀ i ∈ [0, 1, 2, 3], _
    refine zA (zH 0 _ #[.int .i64 1] rfl rfl rfl (fun _ _ _ _ => rfl) hLo rfl rfl Tryd.func59 rfl rfl (fun b G hb ho => args1 (rfl)) (fun w hw => small_ref_calls 1 w (by omega))) ?_
    refine zA (zH 1 _ #[.int .i64 1] rfl rfl rfl (fun _ _ _ _ => rfl) hLo rfl rfl Tryd.func59 rfl rfl (fun b G hb ho => args1 (rfl)) (fun w hw => small_ref_calls 1 w (by omega))) ?_
    refine zA (zC 2 _ rfl rfl hLo rfl rfl (fun _ _ _ _ => rfl) (fun b G w hb ho => zZ rfl (parts2 (zB hLo 0 rfl HS1.1 rfl (hb 0 (by rfl))) (zB hLo 1 rfl HS1.1 rfl (hb 1 (by rfl)))) (build_zr _ _ _))) ?_
    refine zA (zI 0 _ rfl rfl rfl rfl rfl (fun _ _ _ _ => rfl) rfl rfl rfl (by rfl) infoPr (fun b G hb ho => zD rfl (HS1.get 0 rfl)) (fun b G hb ho => zB hLo 2 rfl HS1.1 rfl (hb 2 (by rfl)))) ?_
    exact zE
  clear hLo
  intro G a2 w2 hS hH
  have HS2 : Sl a2 4 [(0, .pointer (some ⟨g1_0, 0, none⟩))] := hS
  have HH2 : Held w w2 [⟨g1_0, .i64, 64, pr4 (fun _ => 0) (zM (fun i => if i = 0 then 1 else 0) 16) (zM (fun i => if i = 0 then 1 else 0) 16) fun _ => 0, 52⟩] := hH
  clear hS hH HS1 HH1
  refine then_ ?_
  exact ret_row rfl HS2.2.1 (HS2.get 0 rfl) (HH2.row 0 rfl) Tryd.underlying52 rfl infoPr ⟨rfl, HH2.1⟩
theorem tabnegR_2 : rtab .any (opsOf Tryd.f31 2) = (true, [([], []), ([], []), ([1], [1]), ([0, 2], [0, 2]), ([], []), ([4], [4]), ([], []), ([6], [6]), ([], []), ([], []), ([9], [9]), ([8, 10, 3], [8, 10]), ([3, 5, 7, 11], [3, 5, 7, 11]), ([12, 11, 0, 1, 2, 3, 4, 5, 6, 7, 8, 9, 10, 11, 12], [12])]) := by kernel_rfl
theorem bitsnegR_2 : zW [([], []), ([], []), ([1], [1]), ([0, 2], [0, 2]), ([], []), ([4], [4]), ([], []), ([6], [6]), ([], []), ([], []), ([9], [9]), ([8, 10, 3], [8, 10]), ([3, 5, 7, 11], [3, 5, 7, 11]), ([12, 11, 0, 1, 2, 3, 4, 5, 6, 7, 8, 9, 10, 11, 12], [12])] [0, 0, 2, 7, 0, 16, 0, 64, 0, 0, 512, 1807, 4095, 8191] = true := by kernel_rfl
def negRP (F : Nat → Int) : Nat → Int := pr4 (subR (fun _ => 0) (co F 0)) (co F 16) (co F 32) (subR (fun _ => 0) (co F 48))
theorem neg_pr (F : Nat → Int) (w : World) (hF : PR F) : Calls Tryd.prog 31 #[.agg (FR .i64 64 F)] w fun e w' => e = .returned (.agg (FR .i64 64 (negRP F))) ∧ Below w.heap.size w w' := by
  refine enter_ 18 Tryd.func31 rfl rfl (fun a0 hS => ?_)
  have HS0 : Sl a0 18 [(0, .agg (FR .i64 64 F))] := hS
  have HH0 : Held w w [] := Held.first w
  clear hS
  refine wp_seq ?_
  have hLo : LOk [(0, 1, .ptr 0 0), (1, 2, .ptr 1 0)] := lok rfl rfl
  refine zJ (wE := w) (sz := 18) (n := 2) [0, 1] [(1, .ptr 0 0), (2, .ptr 1 0)] _ [⟨0, some 0, none, .i64, 64, F, F, 52⟩, ⟨0, some 1, none, .i64, 64, fun _ => 0, fun _ => 0, 52⟩] rfl (by rfl) HH0 rfl rfl hLo rfl HS0 (slL 0 (d := 0) rfl (slL 1 (d := 1) rfl (trivial))) ?_ ?_
  · show ∀ i ∈ [0, 1], _
    refine zA (zK 0 0 .i64 64 52 none _ _ rfl rfl (fun _ _ _ _ => rfl) rfl hLo rfl rfl rfl rfl (by rfl) (fun b G w hb ho => exec_box rfl (zD rfl (HS0.get 0 rfl)) (by kernel_rfl))) ?_
    refine zA (zK 1 1 .i64 64 52 none _ _ rfl rfl (fun _ _ _ _ => rfl) rfl hLo rfl rfl rfl rfl (by rfl) (fun b G w _ _ => by kernel_rfl)) ?_
    exact zE
  clear hLo
  intro G a1 w1 hS hH
  have HS1 : Sl a1 18 [(1, .pointer (some ⟨(G 0), 0, none⟩)), (2, .pointer (some ⟨(G 1), 0, none⟩))] := hS
  have HH1 : Held w w1 [⟨(G 0), .i64, 64, F, 52⟩, ⟨(G 1), .i64, 64, fun _ => 0, 52⟩] := hH
  clear hS hH HS0 HH0
  generalize G 0 = g1_0 at HS1 HH1
  generalize G 1 = g1_1 at HS1 HH1
  refine then_ ?_
  refine wp_seq ?_
  have hLo : LOk [(0, 4, .val (.agg (FR .i64 16 (fun _ => 0)))), (1, 3, .ptr 1 0)] := lok rfl rfl
  refine zJ (wE := w) (sz := 18) (n := 3) [0, 1, 3] [(1, .val (.pointer (some ⟨g1_0, 0, none⟩))), (2, .val (.pointer (some ⟨g1_1, 0, none⟩))), (3, .ptr 1 0)] _ [⟨g1_0, none, none, .i64, 64, F, F, 52⟩, ⟨g1_1, none, none, .i64, 64, fun _ => 0, fun _ => 0, 52⟩, ⟨0, some 1, some 2, .i64, 16, fun _ => 0, fun _ => 0, 50⟩] rfl (by rfl) HH1 rfl rfl hLo rfl HS1 (slS 0 rfl rfl (slS 1 rfl rfl (slL 1 (d := 1) rfl (trivial)))) ?_ ?_
  · show ∀ i ∈ [0, 1, 2], _
    refine zA (zC 0 _ rfl rfl hLo rfl rfl (fun _ _ _ _ => rfl) (fun b G w hb ho => zZ rfl (parts0 ) (by kernel_rfl))) ?_
    refine zA (zK 1 2 .i64 16 50 (some 2) _ _ rfl rfl (fun _ _ _ _ => rfl) rfl hLo rfl rfl rfl rfl (by rfl) (fun b G w _ _ => by kernel_rfl)) ?_
    refine zA (zI 2 _ rfl rfl rfl rfl rfl (fun _ _ _ _ => rfl) rfl rfl rfl (by rfl) zL (fun b G hb ho => zB hLo 1 rfl HS1.1 rfl (hb 1 (by rfl))) (fun b G hb ho => zB hLo 0 rfl HS1.1 rfl (hb 0 (by rfl)))) ?_
    exact zE
  clear hLo
  intro G a2 w2 hS hH
  have HS2 : Sl a2 18 [(1, .pointer (some ⟨g1_0, 0, none⟩)), (2, .pointer (some ⟨g1_1, 0, none⟩)), (3, .pointer (some ⟨(G 1), 0, none⟩))] := hS
  have HH2 : Held w w2 [⟨g1_0, .i64, 64, F, 52⟩, ⟨g1_1, .i64, 64, fun _ => 0, 52⟩, ⟨(G 1), .i64, 16, fun _ => 0, 50⟩] := hH
  clear hS hH HS1 HH1
  generalize G 1 = g2_1 at HS2 HH2
  refine then_ ?_
  refine wp_seq ?_
  have hLo : LOk [(0, 5, .val (.agg (FR .i64 16 (fun _ => 0)))), (1, 6, .val (.pointer (some ⟨g1_0, 0, none⟩))), (2, 7, .val (.agg (FR .i64 16 (co (F) 0)))), (3, 8, .val (.agg (FR .i64 16 (subR (fun _ => 0) (co (F) 0))))), (4, 9, .val (.pointer (some ⟨g1_0, 16, none⟩))), (5, 10, .val (.agg (FR .i64 16 (co (F) 16)))), (6, 11, .val (.pointer (some ⟨g1_0, 32, none⟩))), (7, 12, .val (.agg (FR .i64 16 (co (F) 32)))), (8, 13, .val (.agg (FR .i64 16 (fun _ => 0)))), (9, 14, .val (.pointer (some ⟨g1_0, 48, none⟩))), (10, 15, .val (.agg (FR .i64 16 (co (F) 48)))), (11, 16, .val (.agg (FR .i64 16 (subR (fun _ => 0) (co (F) 48))))), (12, 17, .val (.agg (FR .i64 64 (pr4 (subR (fun _ => 0) (co (F) 0)) (co (F) 16) (co (F) 32) (subR (fun _ => 0) (co (F) 48))))))] := lok rfl rfl
  refine yK (wE := w) (sz := 18) (n := 14) (B := [0, 0, 2, 7, 0, 16, 0, 64, 0, 0, 512, 1807, 4095, 8191]) [0, 1, 2, 3, 4, 5, 6, 7, 8, 9, 10, 11, 12, 13] [(2, .val (.pointer (some ⟨g1_1, 0, none⟩)))] _ [⟨g1_0, none, none, .i64, 64, F, F, 52⟩, ⟨g1_1, none, some 13, .i64, 64, fun _ => 0, pr4 (subR (fun _ => 0) (co (F) 0)) (co (F) 16) (co (F) 32) (subR (fun _ => 0) (co (F) 48)), 52⟩, ⟨g2_1, none, none, .i64, 16, fun _ => 0, fun _ => 0, 50⟩] (by rfl) rfl tabnegR_2 bitsnegR_2 (by kernel_rfl) (by kernel_rfl) HH2 rfl rfl hLo rfl HS2 (slS 1 rfl rfl (trivial)) ?_ ?_
  · show ∀ i ∈ [0, 1, 2, 3, 4, 5, 6, 7, 8, 9, 10, 11, 12, 13], _
    refine zA (zG 0 2 _ rfl rfl rfl rfl (fun _ _ _ _ => rfl) hLo rfl rfl rfl (by rfl) Tryd.underlying50 zL rfl (fun b G hb ho => zD rfl (HS2.get 2 rfl))) ?_
    refine zA (zC 1 _ rfl rfl hLo rfl rfl (fun _ _ _ _ => rfl) (fun b G w hb ho => zT rfl (zD rfl (HS2.get 0 rfl)) (by kernel_rfl))) ?_
    refine zA (yA 2 0 _ 0 16 rfl rfl rfl rfl (fun _ _ _ _ => rfl) hLo rfl rfl rfl (by rfl) (Nat.le_of_ble_eq_true rfl) Tryd.underlying50 zL rfl (fun b G hb ho => zB hLo 1 rfl HS2.1 rfl (hb 1 (by rfl)))) ?_
    refine zA (zH 3 _ #[.agg (FR .i64 16 (fun _ => 0)), .agg (FR .i64 16 (co (F) 0))] rfl rfl rfl (fun _ _ _ _ => rfl) hLo rfl rfl Tryd.func60 rfl rfl (fun b G hb ho => zU (zB hLo 0 rfl HS2.1 rfl (hb 0 (by rfl))) (zB hLo 2 rfl HS2.1 rfl (hb 2 (by rfl)))) (fun w hw => subR_c _ _ w Re.zero.1 (hF).1)) ?_
    refine zA (zC 4 _ rfl rfl hLo rfl rfl (fun _ _ _ _ => rfl) (fun b G w hb ho => zT rfl (zD rfl (HS2.get 0 rfl)) (by kernel_rfl))) ?_
    refine zA (yA 5 0 _ 16 16 rfl rfl rfl rfl (fun _ _ _ _ => rfl) hLo rfl rfl rfl (by rfl) (Nat.le_of_ble_eq_true rfl) Tryd.underlying50 zL rfl (fun b G hb ho => zB hLo 4 rfl HS2.1 rfl (hb 4 (by rfl)))) ?_
    refine zA (zC 6 _ rfl rfl hLo rfl rfl (fun _ _ _ _ => rfl) (fun b G w hb ho => zT rfl (zD rfl (HS2.get 0 rfl)) (by kernel_rfl))) ?_
    refine zA (yA 7 0 _ 32 16 rfl rfl rfl rfl (fun _ _ _ _ => rfl) hLo rfl rfl rfl (by rfl) (Nat.le_of_ble_eq_true rfl) Tryd.underlying50 zL rfl (fun b G hb ho => zB hLo 6 rfl HS2.1 rfl (hb 6 (by rfl)))) ?_
    refine zA (zG 8 2 _ rfl rfl rfl rfl (fun _ _ _ _ => rfl) hLo rfl rfl rfl (by rfl) Tryd.underlying50 zL rfl (fun b G hb ho => zD rfl (HS2.get 2 rfl))) ?_
    refine zA (zC 9 _ rfl rfl hLo rfl rfl (fun _ _ _ _ => rfl) (fun b G w hb ho => zT rfl (zD rfl (HS2.get 0 rfl)) (by kernel_rfl))) ?_
    refine zA (yA 10 0 _ 48 16 rfl rfl rfl rfl (fun _ _ _ _ => rfl) hLo rfl rfl rfl (by rfl) (Nat.le_of_ble_eq_true rfl) Tryd.underlying50 zL rfl (fun b G hb ho => zB hLo 9 rfl HS2.1 rfl (hb 9 (by rfl)))) ?_
    refine zA (zH 11 _ #[.agg (FR .i64 16 (fun _ => 0)), .agg (FR .i64 16 (co (F) 48))] rfl rfl rfl (fun _ _ _ _ => rfl) hLo rfl rfl Tryd.func60 rfl rfl (fun b G hb ho => zU (zB hLo 8 rfl HS2.1 rfl (hb 8 (by rfl))) (zB hLo 10 rfl HS2.1 rfl (hb 10 (by rfl)))) (fun w hw => subR_c _ _ w Re.zero.1 (hF).2.2.2)) ?_
    refine zA (zC 12 _ rfl rfl hLo rfl rfl (fun _ _ _ _ => rfl) (fun b G w hb ho => zZ rfl (parts4 (zB hLo 3 rfl HS2.1 rfl (hb 3 (by rfl))) (zB hLo 5 rfl HS2.1 rfl (hb 5 (by rfl))) (zB hLo 7 rfl HS2.1 rfl (hb 7 (by rfl))) (zB hLo 11 rfl HS2.1 rfl (hb 11 (by rfl)))) (build_pr _ _ _ _ _))) ?_
    refine zA (zI 1 _ rfl rfl rfl rfl rfl (fun _ _ _ _ => rfl) rfl rfl rfl (by rfl) infoPr (fun b G hb ho => zD rfl (HS2.get 1 rfl)) (fun b G hb ho => zB hLo 12 rfl HS2.1 rfl (hb 12 (by rfl)))) ?_
    exact zE
  clear hLo
  intro G a3 w3 hS hH
  have HS3 : Sl a3 18 [(2, .pointer (some ⟨g1_1, 0, none⟩))] := hS
  have HH3 : Held w w3 [⟨g1_0, .i64, 64, F, 52⟩, ⟨g1_1, .i64, 64, pr4 (subR (fun _ => 0) (co (F) 0)) (co (F) 16) (co (F) 32) (subR (fun _ => 0) (co (F) 48)), 52⟩, ⟨g2_1, .i64, 16, fun _ => 0, 50⟩] := hH
  clear hS hH HS2 HH2
  refine then_ ?_
  exact ret_row rfl HS3.2.1 (HS3.get 0 rfl) (HH3.row 1 rfl) Tryd.underlying52 rfl infoPr ⟨rfl, HH3.1⟩
theorem tabaddR_5 : rtab .any (opsOf Tryd.f32 5) = (true, [([], []), ([0], [0]), ([], []), ([2], [2]), ([1, 3], [1, 3]), ([], []), ([5], [5]), ([], []), ([7], [7]), ([6, 8, 4], [6, 8]), ([4, 9, 9], [4, 9]), ([], []), ([], []), ([11, 12, 10], [11, 12]), ([10, 13, 13], [10, 13]), ([], []), ([15, 14, 14, 0, 1, 2, 3, 4, 5, 6, 7, 8, 9, 10, 11, 12, 13, 14, 15], [14, 15])]) := by kernel_rfl
theorem bitsaddR_5 : zW [([], []), ([0], [0]), ([], []), ([2], [2]), ([1, 3], [1, 3]), ([], []), ([5], [5]), ([], []), ([7], [7]), ([6, 8, 4], [6, 8]), ([4, 9, 9], [4, 9]), ([], []), ([], []), ([11, 12, 10], [11, 12]), ([10, 13, 13], [10, 13]), ([], []), ([15, 14, 14, 0, 1, 2, 3, 4, 5, 6, 7, 8, 9, 10, 11, 12, 13, 14, 15], [14, 15])] [0, 1, 0, 4, 15, 0, 32, 0, 128, 511, 1023, 0, 0, 8191, 16383, 0, 65535] = true := by kernel_rfl
theorem tabaddR_9 : rtab .any (opsOf Tryd.f32 9) = (true, [([], []), ([], []), ([0, 1], [0, 1]), ([], []), ([], []), ([3, 4, 2], [3, 4]), ([], []), ([], []), ([6, 7, 5], [6, 7]), ([], []), ([], []), ([9, 10, 8], [9, 10]), ([2, 5, 8, 11], [2, 5, 8, 11]), ([12, 11, 0, 1, 2, 3, 4, 5, 6, 7, 8, 9, 10, 11, 12], [12])]) := by kernel_rfl
theorem bitsaddR_9 : zW [([], []), ([], []), ([0, 1], [0, 1]), ([], []), ([], []), ([3, 4, 2], [3, 4]), ([], []), ([], []), ([6, 7, 5], [6, 7]), ([], []), ([], []), ([9, 10, 8], [9, 10]), ([2, 5, 8, 11], [2, 5, 8, 11]), ([12, 11, 0, 1, 2, 3, 4, 5, 6, 7, 8, 9, 10, 11, 12], [12])] [0, 0, 3, 0, 0, 31, 0, 0, 255, 0, 0, 2047, 4095, 8191] = true := by kernel_rfl
def xR (F H : Nat → Int) : Nat → Int := mulR (co F 0) (co H 0)
def yR (F H : Nat → Int) : Nat → Int := mulR (co F 16) (co H 16)
def zR (F H : Nat → Int) : Nat → Int := mulR (co F 32) (co H 32)
def tR (F H : Nat → Int) : Nat → Int := mulR (mulR (co F 48) (co H 48)) dR
def crR (F H : Nat → Int) : Nat → Int := subR (mulR (addR (co F 0) (co F 16)) (addR (co H 0) (co H 16))) (addR (xR F H) (yR F H))
def loR (F H : Nat → Int) : Nat → Int := subR (zR F H) (tR F H)
def hiR (F H : Nat → Int) : Nat → Int := addR (zR F H) (tR F H)
def suR (F H : Nat → Int) : Nat → Int := addR (yR F H) (xR F H)
def addRP (F H : Nat → Int) : Nat → Int := pr4 (mulR (crR F H) (loR F H)) (mulR (hiR F H) (suR F H)) (mulR (loR F H) (hiR F H)) (mulR (crR F H) (suR F H))
theorem xR_Rn {F H : Nat → Int} (hF : PR F) (hH : PR H) : Rn (xR F H) := rmul hF.1 hH.1
theorem yR_Rn {F H : Nat → Int} (hF : PR F) (hH : PR H) : Rn (yR F H) := rmul hF.2.1 hH.2.1
theorem zR_Rn {F H : Nat → Int} (hF : PR F) (hH : PR H) : Rn (zR F H) := rmul hF.2.2.1 hH.2.2.1
theorem tR_Rn {F H : Nat → Int} (hF : PR F) (hH : PR H) : Rn (tR F H) := rmul (rmul hF.2.2.2 hH.2.2.2) dR_Rn
theorem crR_Rn {F H : Nat → Int} (hF : PR F) (hH : PR H) : Rn (crR F H) := rsub (rmul (radd hF.1 hF.2.1) (radd hH.1 hH.2.1)) (radd (xR_Rn hF hH) (yR_Rn hF hH))
theorem loR_Rn {F H : Nat → Int} (hF : PR F) (hH : PR H) : Rn (loR F H) := rsub (zR_Rn hF hH) (tR_Rn hF hH)
theorem hiR_Rn {F H : Nat → Int} (hF : PR F) (hH : PR H) : Rn (hiR F H) := radd (zR_Rn hF hH) (tR_Rn hF hH)
theorem suR_Rn {F H : Nat → Int} (hF : PR F) (hH : PR H) : Rn (suR F H) := radd (yR_Rn hF hH) (xR_Rn hF hH)
theorem addRP_PR {F H : Nat → Int} (hF : PR F) (hH : PR H) : PR (addRP F H) := pr_pr (rmul (crR_Rn hF hH) (loR_Rn hF hH)) (rmul (hiR_Rn hF hH) (suR_Rn hF hH)) (rmul (loR_Rn hF hH) (hiR_Rn hF hH)) (rmul (crR_Rn hF hH) (suR_Rn hF hH))
theorem add_pr (F H : Nat → Int) (w : World) (hF : PR F) (hH : PR H) : Calls Tryd.prog 32 #[.agg (FR .i64 64 F), .agg (FR .i64 64 H)] w fun e w' => e = .returned (.agg (FR .i64 64 (addRP F H))) ∧ Below w.heap.size w w' := by
  refine enter_ 72 Tryd.func32 rfl rfl (fun a0 hS => ?_)
  have HS0 : Sl a0 72 [(0, .agg (FR .i64 64 F)), (1, .agg (FR .i64 64 H))] := hS
  have HH0 : Held w w [] := Held.first w
  clear hS
  refine wp_seq ?_
  have hLo : LOk [(0, 2, .ptr 0 0), (1, 3, .ptr 1 0), (2, 4, .ptr 2 0)] := lok rfl rfl
  refine zJ (wE := w) (sz := 72) (n := 3) [0, 1, 3] [(2, .ptr 0 0), (3, .ptr 1 0), (4, .ptr 2 0)] _ [⟨0, some 0, none, .i64, 64, F, F, 52⟩, ⟨0, some 1, none, .i64, 64, H, H, 52⟩, ⟨0, some 2, none, .i64, 64, fun _ => 0, fun _ => 0, 52⟩] rfl (by rfl) HH0 rfl rfl hLo rfl HS0 (slL 0 (d := 0) rfl (slL 1 (d := 1) rfl (slL 2 (d := 2) rfl (trivial)))) ?_ ?_
  · show ∀ i ∈ [0, 1, 2], _
    refine zA (zK 0 0 .i64 64 52 none _ _ rfl rfl (fun _ _ _ _ => rfl) rfl hLo rfl rfl rfl rfl (by rfl) (fun b G w hb ho => exec_box rfl (zD rfl (HS0.get 0 rfl)) (by kernel_rfl))) ?_
    refine zA (zK 1 1 .i64 64 52 none _ _ rfl rfl (fun _ _ _ _ => rfl) rfl hLo rfl rfl rfl rfl (by rfl) (fun b G w hb ho => exec_box rfl (zD rfl (HS0.get 1 rfl)) (by kernel_rfl))) ?_
    refine zA (zK 2 2 .i64 64 52 none _ _ rfl rfl (fun _ _ _ _ => rfl) rfl hLo rfl rfl rfl rfl (by rfl) (fun b G w _ _ => by kernel_rfl)) ?_
    exact zE
  clear hLo
  intro G a1 w1 hS hH
  have HS1 : Sl a1 72 [(2, .pointer (some ⟨(G 0), 0, none⟩)), (3, .pointer (some ⟨(G 1), 0, none⟩)), (4, .pointer (some ⟨(G 2), 0, none⟩))] := hS
  have HH1 : Held w w1 [⟨(G 0), .i64, 64, F, 52⟩, ⟨(G 1), .i64, 64, H, 52⟩, ⟨(G 2), .i64, 64, fun _ => 0, 52⟩] := hH
  clear hS hH HS0 HH0
  generalize G 0 = g1_0 at HS1 HH1
  generalize G 1 = g1_1 at HS1 HH1
  generalize G 2 = g1_2 at HS1 HH1
  refine then_ ?_
  refine wp_seq ?_
  have hLo : LOk [(0, 13, .val (.pointer (some ⟨g1_0, 0, none⟩))), (1, 14, .val (.agg (FR .i64 16 (co (F) 0)))), (2, 15, .val (.pointer (some ⟨g1_1, 0, none⟩))), (3, 16, .val (.agg (FR .i64 16 (co (H) 0)))), (4, 17, .val (.agg (FR .i64 16 (mulR (co (F) 0) (co (H) 0))))), (5, 5, .ptr 5 0)] := lok rfl rfl
  refine zJ (wE := w) (sz := 72) (n := 7) [0, 1, 3, 7, 15, 31, 63] [(2, .val (.pointer (some ⟨g1_0, 0, none⟩))), (3, .val (.pointer (some ⟨g1_1, 0, none⟩))), (4, .val (.pointer (some ⟨g1_2, 0, none⟩))), (5, .ptr 5 0)] _ [⟨g1_0, none, none, .i64, 64, F, F, 52⟩, ⟨g1_1, none, none, .i64, 64, H, H, 52⟩, ⟨g1_2, none, none, .i64, 64, fun _ => 0, fun _ => 0, 52⟩, ⟨0, some 5, some 6, .i64, 16, fun _ => 0, mulR (co (F) 0) (co (H) 0), 50⟩] rfl (by rfl) HH1 rfl rfl hLo rfl HS1 (slS 0 rfl rfl (slS 1 rfl rfl (slS 2 rfl rfl (slL 5 (d := 5) rfl (trivial))))) ?_ ?_
  · show ∀ i ∈ [0, 1, 2, 3, 4, 5, 6], _
    refine zA (zC 0 _ rfl rfl hLo rfl rfl (fun _ _ _ _ => rfl) (fun b G w hb ho => zT rfl (zD rfl (HS1.get 0 rfl)) (by kernel_rfl))) ?_
    refine zA (yA 1 0 _ 0 16 rfl rfl rfl rfl (fun _ _ _ _ => rfl) hLo rfl rfl rfl (by rfl) (Nat.le_of_ble_eq_true rfl) Tryd.underlying50 zL rfl (fun b G hb ho => zB hLo 0 rfl HS1.1 rfl (hb 0 (by rfl)))) ?_
    refine zA (zC 2 _ rfl rfl hLo rfl rfl (fun _ _ _ _ => rfl) (fun b G w hb ho => zT rfl (zD rfl (HS1.get 1 rfl)) (by kernel_rfl))) ?_
    refine zA (yA 3 1 _ 0 16 rfl rfl rfl rfl (fun _ _ _ _ => rfl) hLo rfl rfl rfl (by rfl) (Nat.le_of_ble_eq_true rfl) Tryd.underlying50 zL rfl (fun b G hb ho => zB hLo 2 rfl HS1.1 rfl (hb 2 (by rfl)))) ?_
    refine zA (zH 4 _ #[.agg (FR .i64 16 (co (F) 0)), .agg (FR .i64 16 (co (H) 0))] rfl rfl rfl (fun _ _ _ _ => rfl) hLo rfl rfl Tryd.func45 rfl rfl (fun b G hb ho => zU (zB hLo 1 rfl HS1.1 rfl (hb 1 (by rfl))) (zB hLo 3 rfl HS1.1 rfl (hb 3 (by rfl)))) (fun w hw => mulR_c _ _ w (hF).1 (hH).1)) ?_
    refine zA (zK 5 3 .i64 16 50 (some 6) _ _ rfl rfl (fun _ _ _ _ => rfl) rfl hLo rfl rfl rfl rfl (by rfl) (fun b G w _ _ => by kernel_rfl)) ?_
    refine zA (zI 3 _ rfl rfl rfl rfl rfl (fun _ _ _ _ => rfl) rfl rfl rfl (by rfl) zL (fun b G hb ho => zB hLo 5 rfl HS1.1 rfl (hb 5 (by rfl))) (fun b G hb ho => zB hLo 4 rfl HS1.1 rfl (hb 4 (by rfl)))) ?_
    exact zE
  clear hLo
  intro G a2 w2 hS hH
  have HS2 : Sl a2 72 [(2, .pointer (some ⟨g1_0, 0, none⟩)), (3, .pointer (some ⟨g1_1, 0, none⟩)), (4, .pointer (some ⟨g1_2, 0, none⟩)), (5, .pointer (some ⟨(G 5), 0, none⟩))] := hS
  have HH2 : Held w w2 [⟨g1_0, .i64, 64, F, 52⟩, ⟨g1_1, .i64, 64, H, 52⟩, ⟨g1_2, .i64, 64, fun _ => 0, 52⟩, ⟨(G 5), .i64, 16, xR F H, 50⟩] := hH
  clear hS hH HS1 HH1
  generalize G 5 = g2_5 at HS2 HH2
  refine then_ ?_
  refine wp_seq ?_
  have hLo : LOk [(0, 18, .val (.pointer (some ⟨g1_0, 16, none⟩))), (1, 19, .val (.agg (FR .i64 16 (co (F) 16)))), (2, 20, .val (.pointer (some ⟨g1_1, 16, none⟩))), (3, 21, .val (.agg (FR .i64 16 (co (H) 16)))), (4, 22, .val (.agg (FR .i64 16 (mulR (co (F) 16) (co (H) 16))))), (5, 6, .ptr 5 0)] := lok rfl rfl
  refine zJ (wE := w) (sz := 72) (n := 7) [0, 1, 3, 7, 15, 31, 63] [(2, .val (.pointer (some ⟨g1_0, 0, none⟩))), (3, .val (.pointer (some ⟨g1_1, 0, none⟩))), (4, .val (.pointer (some ⟨g1_2, 0, none⟩))), (5, .val (.pointer (some ⟨g2_5, 0, none⟩))), (6, .ptr 5 0)] _ [⟨g1_0, none, none, .i64, 64, F, F, 52⟩, ⟨g1_1, none, none, .i64, 64, H, H, 52⟩, ⟨g1_2, none, none, .i64, 64, fun _ => 0, fun _ => 0, 52⟩, ⟨g2_5, none, none, .i64, 16, xR F H, xR F H, 50⟩, ⟨0, some 5, some 6, .i64, 16, fun _ => 0, mulR (co (F) 16) (co (H) 16), 50⟩] rfl (by rfl) HH2 rfl rfl hLo rfl HS2 (slS 0 rfl rfl (slS 1 rfl rfl (slS 2 rfl rfl (slS 3 rfl rfl (slL 5 (d := 5) rfl (trivial)))))) ?_ ?_
  · show ∀ i ∈ [0, 1, 2, 3, 4, 5, 6], _
    refine zA (zC 0 _ rfl rfl hLo rfl rfl (fun _ _ _ _ => rfl) (fun b G w hb ho => zT rfl (zD rfl (HS2.get 0 rfl)) (by kernel_rfl))) ?_
    refine zA (yA 1 0 _ 16 16 rfl rfl rfl rfl (fun _ _ _ _ => rfl) hLo rfl rfl rfl (by rfl) (Nat.le_of_ble_eq_true rfl) Tryd.underlying50 zL rfl (fun b G hb ho => zB hLo 0 rfl HS2.1 rfl (hb 0 (by rfl)))) ?_
    refine zA (zC 2 _ rfl rfl hLo rfl rfl (fun _ _ _ _ => rfl) (fun b G w hb ho => zT rfl (zD rfl (HS2.get 1 rfl)) (by kernel_rfl))) ?_
    refine zA (yA 3 1 _ 16 16 rfl rfl rfl rfl (fun _ _ _ _ => rfl) hLo rfl rfl rfl (by rfl) (Nat.le_of_ble_eq_true rfl) Tryd.underlying50 zL rfl (fun b G hb ho => zB hLo 2 rfl HS2.1 rfl (hb 2 (by rfl)))) ?_
    refine zA (zH 4 _ #[.agg (FR .i64 16 (co (F) 16)), .agg (FR .i64 16 (co (H) 16))] rfl rfl rfl (fun _ _ _ _ => rfl) hLo rfl rfl Tryd.func45 rfl rfl (fun b G hb ho => zU (zB hLo 1 rfl HS2.1 rfl (hb 1 (by rfl))) (zB hLo 3 rfl HS2.1 rfl (hb 3 (by rfl)))) (fun w hw => mulR_c _ _ w (hF).2.1 (hH).2.1)) ?_
    refine zA (zK 5 4 .i64 16 50 (some 6) _ _ rfl rfl (fun _ _ _ _ => rfl) rfl hLo rfl rfl rfl rfl (by rfl) (fun b G w _ _ => by kernel_rfl)) ?_
    refine zA (zI 4 _ rfl rfl rfl rfl rfl (fun _ _ _ _ => rfl) rfl rfl rfl (by rfl) zL (fun b G hb ho => zB hLo 5 rfl HS2.1 rfl (hb 5 (by rfl))) (fun b G hb ho => zB hLo 4 rfl HS2.1 rfl (hb 4 (by rfl)))) ?_
    exact zE
  clear hLo
  intro G a3 w3 hS hH
  have HS3 : Sl a3 72 [(2, .pointer (some ⟨g1_0, 0, none⟩)), (3, .pointer (some ⟨g1_1, 0, none⟩)), (4, .pointer (some ⟨g1_2, 0, none⟩)), (5, .pointer (some ⟨g2_5, 0, none⟩)), (6, .pointer (some ⟨(G 5), 0, none⟩))] := hS
  have HH3 : Held w w3 [⟨g1_0, .i64, 64, F, 52⟩, ⟨g1_1, .i64, 64, H, 52⟩, ⟨g1_2, .i64, 64, fun _ => 0, 52⟩, ⟨g2_5, .i64, 16, xR F H, 50⟩, ⟨(G 5), .i64, 16, yR F H, 50⟩] := hH
  clear hS hH HS2 HH2
  generalize G 5 = g3_5 at HS3 HH3
  refine then_ ?_
  refine wp_seq ?_
  have hLo : LOk [(0, 23, .val (.pointer (some ⟨g1_0, 32, none⟩))), (1, 24, .val (.agg (FR .i64 16 (co (F) 32)))), (2, 25, .val (.pointer (some ⟨g1_1, 32, none⟩))), (3, 26, .val (.agg (FR .i64 16 (co (H) 32)))), (4, 27, .val (.agg (FR .i64 16 (mulR (co (F) 32) (co (H) 32))))), (5, 7, .ptr 5 0)] := lok rfl rfl
  refine zJ (wE := w) (sz := 72) (n := 7) [0, 1, 3, 7, 15, 31, 63] [(2, .val (.pointer (some ⟨g1_0, 0, none⟩))), (3, .val (.pointer (some ⟨g1_1, 0, none⟩))), (4, .val (.pointer (some ⟨g1_2, 0, none⟩))), (5, .val (.pointer (some ⟨g2_5, 0, none⟩))), (6, .val (.pointer (some ⟨g3_5, 0, none⟩))), (7, .ptr 5 0)] _ [⟨g1_0, none, none, .i64, 64, F, F, 52⟩, ⟨g1_1, none, none, .i64, 64, H, H, 52⟩, ⟨g1_2, none, none, .i64, 64, fun _ => 0, fun _ => 0, 52⟩, ⟨g2_5, none, none, .i64, 16, xR F H, xR F H, 50⟩, ⟨g3_5, none, none, .i64, 16, yR F H, yR F H, 50⟩, ⟨0, some 5, some 6, .i64, 16, fun _ => 0, mulR (co (F) 32) (co (H) 32), 50⟩] rfl (by rfl) HH3 rfl rfl hLo rfl HS3 (slS 0 rfl rfl (slS 1 rfl rfl (slS 2 rfl rfl (slS 3 rfl rfl (slS 4 rfl rfl (slL 5 (d := 5) rfl (trivial))))))) ?_ ?_
  · show ∀ i ∈ [0, 1, 2, 3, 4, 5, 6], _
    refine zA (zC 0 _ rfl rfl hLo rfl rfl (fun _ _ _ _ => rfl) (fun b G w hb ho => zT rfl (zD rfl (HS3.get 0 rfl)) (by kernel_rfl))) ?_
    refine zA (yA 1 0 _ 32 16 rfl rfl rfl rfl (fun _ _ _ _ => rfl) hLo rfl rfl rfl (by rfl) (Nat.le_of_ble_eq_true rfl) Tryd.underlying50 zL rfl (fun b G hb ho => zB hLo 0 rfl HS3.1 rfl (hb 0 (by rfl)))) ?_
    refine zA (zC 2 _ rfl rfl hLo rfl rfl (fun _ _ _ _ => rfl) (fun b G w hb ho => zT rfl (zD rfl (HS3.get 1 rfl)) (by kernel_rfl))) ?_
    refine zA (yA 3 1 _ 32 16 rfl rfl rfl rfl (fun _ _ _ _ => rfl) hLo rfl rfl rfl (by rfl) (Nat.le_of_ble_eq_true rfl) Tryd.underlying50 zL rfl (fun b G hb ho => zB hLo 2 rfl HS3.1 rfl (hb 2 (by rfl)))) ?_
    refine zA (zH 4 _ #[.agg (FR .i64 16 (co (F) 32)), .agg (FR .i64 16 (co (H) 32))] rfl rfl rfl (fun _ _ _ _ => rfl) hLo rfl rfl Tryd.func45 rfl rfl (fun b G hb ho => zU (zB hLo 1 rfl HS3.1 rfl (hb 1 (by rfl))) (zB hLo 3 rfl HS3.1 rfl (hb 3 (by rfl)))) (fun w hw => mulR_c _ _ w (hF).2.2.1 (hH).2.2.1)) ?_
    refine zA (zK 5 5 .i64 16 50 (some 6) _ _ rfl rfl (fun _ _ _ _ => rfl) rfl hLo rfl rfl rfl rfl (by rfl) (fun b G w _ _ => by kernel_rfl)) ?_
    refine zA (zI 5 _ rfl rfl rfl rfl rfl (fun _ _ _ _ => rfl) rfl rfl rfl (by rfl) zL (fun b G hb ho => zB hLo 5 rfl HS3.1 rfl (hb 5 (by rfl))) (fun b G hb ho => zB hLo 4 rfl HS3.1 rfl (hb 4 (by rfl)))) ?_
    exact zE
  clear hLo
  intro G a4 w4 hS hH
  have HS4 : Sl a4 72 [(2, .pointer (some ⟨g1_0, 0, none⟩)), (3, .pointer (some ⟨g1_1, 0, none⟩)), (4, .pointer (some ⟨g1_2, 0, none⟩)), (5, .pointer (some ⟨g2_5, 0, none⟩)), (6, .pointer (some ⟨g3_5, 0, none⟩)), (7, .pointer (some ⟨(G 5), 0, none⟩))] := hS
  have HH4 : Held w w4 [⟨g1_0, .i64, 64, F, 52⟩, ⟨g1_1, .i64, 64, H, 52⟩, ⟨g1_2, .i64, 64, fun _ => 0, 52⟩, ⟨g2_5, .i64, 16, xR F H, 50⟩, ⟨g3_5, .i64, 16, yR F H, 50⟩, ⟨(G 5), .i64, 16, zR F H, 50⟩] := hH
  clear hS hH HS3 HH3
  generalize G 5 = g4_5 at HS4 HH4
  refine then_ ?_
  refine wp_seq ?_
  have hLo : LOk [(0, 28, .val (.pointer (some ⟨g1_0, 48, none⟩))), (1, 29, .val (.agg (FR .i64 16 (co (F) 48)))), (2, 30, .val (.pointer (some ⟨g1_1, 48, none⟩))), (3, 31, .val (.agg (FR .i64 16 (co (H) 48)))), (4, 32, .val (.agg (FR .i64 16 (mulR (co (F) 48) (co (H) 48))))), (5, 33, .val (.agg (FR .i64 16 (dR)))), (6, 34, .val (.agg (FR .i64 16 (mulR (mulR (co (F) 48) (co (H) 48)) (dR))))), (7, 8, .ptr 7 0)] := lok rfl rfl
  refine zJ (wE := w) (sz := 72) (n := 9) [0, 1, 3, 7, 15, 31, 63, 127, 255] [(2, .val (.pointer (some ⟨g1_0, 0, none⟩))), (3, .val (.pointer (some ⟨g1_1, 0, none⟩))), (4, .val (.pointer (some ⟨g1_2, 0, none⟩))), (5, .val (.pointer (some ⟨g2_5, 0, none⟩))), (6, .val (.pointer (some ⟨g3_5, 0, none⟩))), (7, .val (.pointer (some ⟨g4_5, 0, none⟩))), (8, .ptr 7 0)] _ [⟨g1_0, none, none, .i64, 64, F, F, 52⟩, ⟨g1_1, none, none, .i64, 64, H, H, 52⟩, ⟨g1_2, none, none, .i64, 64, fun _ => 0, fun _ => 0, 52⟩, ⟨g2_5, none, none, .i64, 16, xR F H, xR F H, 50⟩, ⟨g3_5, none, none, .i64, 16, yR F H, yR F H, 50⟩, ⟨g4_5, none, none, .i64, 16, zR F H, zR F H, 50⟩, ⟨0, some 7, some 8, .i64, 16, fun _ => 0, mulR (mulR (co (F) 48) (co (H) 48)) (dR), 50⟩] rfl (by rfl) HH4 rfl rfl hLo rfl HS4 (slS 0 rfl rfl (slS 1 rfl rfl (slS 2 rfl rfl (slS 3 rfl rfl (slS 4 rfl rfl (slS 5 rfl rfl (slL 7 (d := 7) rfl (trivial)))))))) ?_ ?_
  · show ∀ i ∈ [0, 1, 2, 3, 4, 5, 6, 7, 8], _
    refine zA (zC 0 _ rfl rfl hLo rfl rfl (fun _ _ _ _ => rfl) (fun b G w hb ho => zT rfl (zD rfl (HS4.get 0 rfl)) (by kernel_rfl))) ?_
    refine zA (yA 1 0 _ 48 16 rfl rfl rfl rfl (fun _ _ _ _ => rfl) hLo rfl rfl rfl (by rfl) (Nat.le_of_ble_eq_true rfl) Tryd.underlying50 zL rfl (fun b G hb ho => zB hLo 0 rfl HS4.1 rfl (hb 0 (by rfl)))) ?_
    refine zA (zC 2 _ rfl rfl hLo rfl rfl (fun _ _ _ _ => rfl) (fun b G w hb ho => zT rfl (zD rfl (HS4.get 1 rfl)) (by kernel_rfl))) ?_
    refine zA (yA 3 1 _ 48 16 rfl rfl rfl rfl (fun _ _ _ _ => rfl) hLo rfl rfl rfl (by rfl) (Nat.le_of_ble_eq_true rfl) Tryd.underlying50 zL rfl (fun b G hb ho => zB hLo 2 rfl HS4.1 rfl (hb 2 (by rfl)))) ?_
    refine zA (zH 4 _ #[.agg (FR .i64 16 (co (F) 48)), .agg (FR .i64 16 (co (H) 48))] rfl rfl rfl (fun _ _ _ _ => rfl) hLo rfl rfl Tryd.func45 rfl rfl (fun b G hb ho => zU (zB hLo 1 rfl HS4.1 rfl (hb 1 (by rfl))) (zB hLo 3 rfl HS4.1 rfl (hb 3 (by rfl)))) (fun w hw => mulR_c _ _ w (hF).2.2.2 (hH).2.2.2)) ?_
    refine zA (zH 5 _ #[] rfl rfl rfl (fun _ _ _ _ => rfl) hLo rfl rfl Tryd.func62 rfl rfl (fun b G hb ho => args0 ) (fun w hw => D_calls w)) ?_
    refine zA (zH 6 _ #[.agg (FR .i64 16 (mulR (co (F) 48) (co (H) 48))), .agg (FR .i64 16 (dR))] rfl rfl rfl (fun _ _ _ _ => rfl) hLo rfl rfl Tryd.func45 rfl rfl (fun b G hb ho => zU (zB hLo 4 rfl HS4.1 rfl (hb 4 (by rfl))) (zB hLo 5 rfl HS4.1 rfl (hb 5 (by rfl)))) (fun w hw => mulR_c _ _ w (rmul (hF).2.2.2 (hH).2.2.2) dR_Rn)) ?_
    refine zA (zK 7 6 .i64 16 50 (some 8) _ _ rfl rfl (fun _ _ _ _ => rfl) rfl hLo rfl rfl rfl rfl (by rfl) (fun b G w _ _ => by kernel_rfl)) ?_
    refine zA (zI 6 _ rfl rfl rfl rfl rfl (fun _ _ _ _ => rfl) rfl rfl rfl (by rfl) zL (fun b G hb ho => zB hLo 7 rfl HS4.1 rfl (hb 7 (by rfl))) (fun b G hb ho => zB hLo 6 rfl HS4.1 rfl (hb 6 (by rfl)))) ?_
    exact zE
  clear hLo
  intro G a5 w5 hS hH
  have HS5 : Sl a5 72 [(2, .pointer (some ⟨g1_0, 0, none⟩)), (3, .pointer (some ⟨g1_1, 0, none⟩)), (4, .pointer (some ⟨g1_2, 0, none⟩)), (5, .pointer (some ⟨g2_5, 0, none⟩)), (6, .pointer (some ⟨g3_5, 0, none⟩)), (7, .pointer (some ⟨g4_5, 0, none⟩)), (8, .pointer (some ⟨(G 7), 0, none⟩))] := hS
  have HH5 : Held w w5 [⟨g1_0, .i64, 64, F, 52⟩, ⟨g1_1, .i64, 64, H, 52⟩, ⟨g1_2, .i64, 64, fun _ => 0, 52⟩, ⟨g2_5, .i64, 16, xR F H, 50⟩, ⟨g3_5, .i64, 16, yR F H, 50⟩, ⟨g4_5, .i64, 16, zR F H, 50⟩, ⟨(G 7), .i64, 16, tR F H, 50⟩] := hH
  clear hS hH HS4 HH4
  generalize G 7 = g5_7 at HS5 HH5
  refine then_ ?_
  refine wp_seq ?_
  have hLo : LOk [(0, 35, .val (.pointer (some ⟨g1_0, 0, none⟩))), (1, 36, .val (.agg (FR .i64 16 (co (F) 0)))), (2, 37, .val (.pointer (some ⟨g1_0, 16, none⟩))), (3, 38, .val (.agg (FR .i64 16 (co (F) 16)))), (4, 39, .val (.agg (FR .i64 16 (addR (co (F) 0) (co (F) 16))))), (5, 40, .val (.pointer (some ⟨g1_1, 0, none⟩))), (6, 41, .val (.agg (FR .i64 16 (co (H) 0)))), (7, 42, .val (.pointer (some ⟨g1_1, 16, none⟩))), (8, 43, .val (.agg (FR .i64 16 (co (H) 16)))), (9, 44, .val (.agg (FR .i64 16 (addR (co (H) 0) (co (H) 16))))), (10, 45, .val (.agg (FR .i64 16 (mulR (addR (co (F) 0) (co (F) 16)) (addR (co (H) 0) (co (H) 16)))))), (11, 46, .val (.agg (FR .i64 16 (xR F H)))), (12, 47, .val (.agg (FR .i64 16 (yR F H)))), (13, 48, .val (.agg (FR .i64 16 (addR (xR F H) (yR F H))))), (14, 49, .val (.agg (FR .i64 16 (subR (mulR (addR (co (F) 0) (co (F) 16)) (addR (co (H) 0) (co (H) 16))) (addR (xR F H) (yR F H)))))), (15, 9, .ptr 15 0)] := lok rfl rfl
  refine yK (wE := w) (sz := 72) (n := 17) (B := [0, 1, 0, 4, 15, 0, 32, 0, 128, 511, 1023, 0, 0, 8191, 16383, 0, 65535]) [0, 1, 2, 3, 4, 5, 6, 7, 8, 9, 10, 11, 12, 13, 14, 15, 16] [(4, .val (.pointer (some ⟨g1_2, 0, none⟩))), (5, .val (.pointer (some ⟨g2_5, 0, none⟩))), (6, .val (.pointer (some ⟨g3_5, 0, none⟩))), (7, .val (.pointer (some ⟨g4_5, 0, none⟩))), (8, .val (.pointer (some ⟨g5_7, 0, none⟩))), (9, .ptr 15 0)] _ [⟨g1_0, none, none, .i64, 64, F, F, 52⟩, ⟨g1_1, none, none, .i64, 64, H, H, 52⟩, ⟨g1_2, none, none, .i64, 64, fun _ => 0, fun _ => 0, 52⟩, ⟨g2_5, none, none, .i64, 16, xR F H, xR F H, 50⟩, ⟨g3_5, none, none, .i64, 16, yR F H, yR F H, 50⟩, ⟨g4_5, none, none, .i64, 16, zR F H, zR F H, 50⟩, ⟨g5_7, none, none, .i64, 16, tR F H, tR F H, 50⟩, ⟨0, some 15, some 16, .i64, 16, fun _ => 0, subR (mulR (addR (co (F) 0) (co (F) 16)) (addR (co (H) 0) (co (H) 16))) (addR (xR F H) (yR F H)), 50⟩] (by rfl) rfl tabaddR_5 bitsaddR_5 (by kernel_rfl) (by kernel_rfl) HH5 rfl rfl hLo rfl HS5 (slS 2 rfl rfl (slS 3 rfl rfl (slS 4 rfl rfl (slS 5 rfl rfl (slS 6 rfl rfl (slL 15 (d := 15) rfl (trivial))))))) ?_ ?_
  · show ∀ i ∈ [0, 1, 2, 3, 4, 5, 6, 7, 8, 9, 10, 11, 12, 13, 14, 15, 16], _
    refine zA (zC 0 _ rfl rfl hLo rfl rfl (fun _ _ _ _ => rfl) (fun b G w hb ho => zT rfl (zD rfl (HS5.get 0 rfl)) (by kernel_rfl))) ?_
    refine zA (yA 1 0 _ 0 16 rfl rfl rfl rfl (fun _ _ _ _ => rfl) hLo rfl rfl rfl (by rfl) (Nat.le_of_ble_eq_true rfl) Tryd.underlying50 zL rfl (fun b G hb ho => zB hLo 0 rfl HS5.1 rfl (hb 0 (by rfl)))) ?_
    refine zA (zC 2 _ rfl rfl hLo rfl rfl (fun _ _ _ _ => rfl) (fun b G w hb ho => zT rfl (zD rfl (HS5.get 0 rfl)) (by kernel_rfl))) ?_
    refine zA (yA 3 0 _ 16 16 rfl rfl rfl rfl (fun _ _ _ _ => rfl) hLo rfl rfl rfl (by rfl) (Nat.le_of_ble_eq_true rfl) Tryd.underlying50 zL rfl (fun b G hb ho => zB hLo 2 rfl HS5.1 rfl (hb 2 (by rfl)))) ?_
    refine zA (zH 4 _ #[.agg (FR .i64 16 (co (F) 0)), .agg (FR .i64 16 (co (F) 16))] rfl rfl rfl (fun _ _ _ _ => rfl) hLo rfl rfl Tryd.func61 rfl rfl (fun b G hb ho => zU (zB hLo 1 rfl HS5.1 rfl (hb 1 (by rfl))) (zB hLo 3 rfl HS5.1 rfl (hb 3 (by rfl)))) (fun w hw => addR_c _ _ w (hF).1 (hF).2.1)) ?_
    refine zA (zC 5 _ rfl rfl hLo rfl rfl (fun _ _ _ _ => rfl) (fun b G w hb ho => zT rfl (zD rfl (HS5.get 1 rfl)) (by kernel_rfl))) ?_
    refine zA (yA 6 1 _ 0 16 rfl rfl rfl rfl (fun _ _ _ _ => rfl) hLo rfl rfl rfl (by rfl) (Nat.le_of_ble_eq_true rfl) Tryd.underlying50 zL rfl (fun b G hb ho => zB hLo 5 rfl HS5.1 rfl (hb 5 (by rfl)))) ?_
    refine zA (zC 7 _ rfl rfl hLo rfl rfl (fun _ _ _ _ => rfl) (fun b G w hb ho => zT rfl (zD rfl (HS5.get 1 rfl)) (by kernel_rfl))) ?_
    refine zA (yA 8 1 _ 16 16 rfl rfl rfl rfl (fun _ _ _ _ => rfl) hLo rfl rfl rfl (by rfl) (Nat.le_of_ble_eq_true rfl) Tryd.underlying50 zL rfl (fun b G hb ho => zB hLo 7 rfl HS5.1 rfl (hb 7 (by rfl)))) ?_
    refine zA (zH 9 _ #[.agg (FR .i64 16 (co (H) 0)), .agg (FR .i64 16 (co (H) 16))] rfl rfl rfl (fun _ _ _ _ => rfl) hLo rfl rfl Tryd.func61 rfl rfl (fun b G hb ho => zU (zB hLo 6 rfl HS5.1 rfl (hb 6 (by rfl))) (zB hLo 8 rfl HS5.1 rfl (hb 8 (by rfl)))) (fun w hw => addR_c _ _ w (hH).1 (hH).2.1)) ?_
    refine zA (zH 10 _ #[.agg (FR .i64 16 (addR (co (F) 0) (co (F) 16))), .agg (FR .i64 16 (addR (co (H) 0) (co (H) 16)))] rfl rfl rfl (fun _ _ _ _ => rfl) hLo rfl rfl Tryd.func45 rfl rfl (fun b G hb ho => zU (zB hLo 4 rfl HS5.1 rfl (hb 4 (by rfl))) (zB hLo 9 rfl HS5.1 rfl (hb 9 (by rfl)))) (fun w hw => mulR_c _ _ w (radd (hF).1 (hF).2.1) (radd (hH).1 (hH).2.1))) ?_
    refine zA (zG 11 3 _ rfl rfl rfl rfl (fun _ _ _ _ => rfl) hLo rfl rfl rfl (by rfl) Tryd.underlying50 zL rfl (fun b G hb ho => zD rfl (HS5.get 3 rfl))) ?_
    refine zA (zG 12 4 _ rfl rfl rfl rfl (fun _ _ _ _ => rfl) hLo rfl rfl rfl (by rfl) Tryd.underlying50 zL rfl (fun b G hb ho => zD rfl (HS5.get 4 rfl))) ?_
    refine zA (zH 13 _ #[.agg (FR .i64 16 (xR F H)), .agg (FR .i64 16 (yR F H))] rfl rfl rfl (fun _ _ _ _ => rfl) hLo rfl rfl Tryd.func61 rfl rfl (fun b G hb ho => zU (zB hLo 11 rfl HS5.1 rfl (hb 11 (by rfl))) (zB hLo 12 rfl HS5.1 rfl (hb 12 (by rfl)))) (fun w hw => addR_c _ _ w (xR_Rn hF hH) (yR_Rn hF hH))) ?_
    refine zA (zH 14 _ #[.agg (FR .i64 16 (mulR (addR (co (F) 0) (co (F) 16)) (addR (co (H) 0) (co (H) 16)))), .agg (FR .i64 16 (addR (xR F H) (yR F H)))] rfl rfl rfl (fun _ _ _ _ => rfl) hLo rfl rfl Tryd.func60 rfl rfl (fun b G hb ho => zU (zB hLo 10 rfl HS5.1 rfl (hb 10 (by rfl))) (zB hLo 13 rfl HS5.1 rfl (hb 13 (by rfl)))) (fun w hw => subR_c _ _ w (rmul (radd (hF).1 (hF).2.1) (radd (hH).1 (hH).2.1)) (radd (xR_Rn hF hH) (yR_Rn hF hH)))) ?_
    refine zA (zK 15 7 .i64 16 50 (some 16) _ _ rfl rfl (fun _ _ _ _ => rfl) rfl hLo rfl rfl rfl rfl (by rfl) (fun b G w _ _ => by kernel_rfl)) ?_
    refine zA (zI 7 _ rfl rfl rfl rfl rfl (fun _ _ _ _ => rfl) rfl rfl rfl (by rfl) zL (fun b G hb ho => zB hLo 15 rfl HS5.1 rfl (hb 15 (by rfl))) (fun b G hb ho => zB hLo 14 rfl HS5.1 rfl (hb 14 (by rfl)))) ?_
    exact zE
  clear hLo
  intro G a6 w6 hS hH
  have HS6 : Sl a6 72 [(4, .pointer (some ⟨g1_2, 0, none⟩)), (5, .pointer (some ⟨g2_5, 0, none⟩)), (6, .pointer (some ⟨g3_5, 0, none⟩)), (7, .pointer (some ⟨g4_5, 0, none⟩)), (8, .pointer (some ⟨g5_7, 0, none⟩)), (9, .pointer (some ⟨(G 15), 0, none⟩))] := hS
  have HH6 : Held w w6 [⟨g1_0, .i64, 64, F, 52⟩, ⟨g1_1, .i64, 64, H, 52⟩, ⟨g1_2, .i64, 64, fun _ => 0, 52⟩, ⟨g2_5, .i64, 16, xR F H, 50⟩, ⟨g3_5, .i64, 16, yR F H, 50⟩, ⟨g4_5, .i64, 16, zR F H, 50⟩, ⟨g5_7, .i64, 16, tR F H, 50⟩, ⟨(G 15), .i64, 16, crR F H, 50⟩] := hH
  clear hS hH HS5 HH5
  generalize G 15 = g6_15 at HS6 HH6
  refine then_ ?_
  refine wp_seq ?_
  have hLo : LOk [(0, 50, .val (.agg (FR .i64 16 (zR F H)))), (1, 51, .val (.agg (FR .i64 16 (tR F H)))), (2, 52, .val (.agg (FR .i64 16 (subR (zR F H) (tR F H))))), (3, 10, .ptr 3 0)] := lok rfl rfl
  refine zJ (wE := w) (sz := 72) (n := 5) [0, 1, 3, 7, 15] [(4, .val (.pointer (some ⟨g1_2, 0, none⟩))), (5, .val (.pointer (some ⟨g2_5, 0, none⟩))), (6, .val (.pointer (some ⟨g3_5, 0, none⟩))), (7, .val (.pointer (some ⟨g4_5, 0, none⟩))), (8, .val (.pointer (some ⟨g5_7, 0, none⟩))), (9, .val (.pointer (some ⟨g6_15, 0, none⟩))), (10, .ptr 3 0)] _ [⟨g1_0, none, none, .i64, 64, F, F, 52⟩, ⟨g1_1, none, none, .i64, 64, H, H, 52⟩, ⟨g1_2, none, none, .i64, 64, fun _ => 0, fun _ => 0, 52⟩, ⟨g2_5, none, none, .i64, 16, xR F H, xR F H, 50⟩, ⟨g3_5, none, none, .i64, 16, yR F H, yR F H, 50⟩, ⟨g4_5, none, none, .i64, 16, zR F H, zR F H, 50⟩, ⟨g5_7, none, none, .i64, 16, tR F H, tR F H, 50⟩, ⟨g6_15, none, none, .i64, 16, crR F H, crR F H, 50⟩, ⟨0, some 3, some 4, .i64, 16, fun _ => 0, subR (zR F H) (tR F H), 50⟩] rfl (by rfl) HH6 rfl rfl hLo rfl HS6 (slS 0 rfl rfl (slS 1 rfl rfl (slS 2 rfl rfl (slS 3 rfl rfl (slS 4 rfl rfl (slS 5 rfl rfl (slL 3 (d := 3) rfl (trivial)))))))) ?_ ?_
  · show ∀ i ∈ [0, 1, 2, 3, 4], _
    refine zA (zG 0 5 _ rfl rfl rfl rfl (fun _ _ _ _ => rfl) hLo rfl rfl rfl (by rfl) Tryd.underlying50 zL rfl (fun b G hb ho => zD rfl (HS6.get 3 rfl))) ?_
    refine zA (zG 1 6 _ rfl rfl rfl rfl (fun _ _ _ _ => rfl) hLo rfl rfl rfl (by rfl) Tryd.underlying50 zL rfl (fun b G hb ho => zD rfl (HS6.get 4 rfl))) ?_
    refine zA (zH 2 _ #[.agg (FR .i64 16 (zR F H)), .agg (FR .i64 16 (tR F H))] rfl rfl rfl (fun _ _ _ _ => rfl) hLo rfl rfl Tryd.func60 rfl rfl (fun b G hb ho => zU (zB hLo 0 rfl HS6.1 rfl (hb 0 (by rfl))) (zB hLo 1 rfl HS6.1 rfl (hb 1 (by rfl)))) (fun w hw => subR_c _ _ w (zR_Rn hF hH) (tR_Rn hF hH))) ?_
    refine zA (zK 3 8 .i64 16 50 (some 4) _ _ rfl rfl (fun _ _ _ _ => rfl) rfl hLo rfl rfl rfl rfl (by rfl) (fun b G w _ _ => by kernel_rfl)) ?_
    refine zA (zI 8 _ rfl rfl rfl rfl rfl (fun _ _ _ _ => rfl) rfl rfl rfl (by rfl) zL (fun b G hb ho => zB hLo 3 rfl HS6.1 rfl (hb 3 (by rfl))) (fun b G hb ho => zB hLo 2 rfl HS6.1 rfl (hb 2 (by rfl)))) ?_
    exact zE
  clear hLo
  intro G a7 w7 hS hH
  have HS7 : Sl a7 72 [(4, .pointer (some ⟨g1_2, 0, none⟩)), (5, .pointer (some ⟨g2_5, 0, none⟩)), (6, .pointer (some ⟨g3_5, 0, none⟩)), (7, .pointer (some ⟨g4_5, 0, none⟩)), (8, .pointer (some ⟨g5_7, 0, none⟩)), (9, .pointer (some ⟨g6_15, 0, none⟩)), (10, .pointer (some ⟨(G 3), 0, none⟩))] := hS
  have HH7 : Held w w7 [⟨g1_0, .i64, 64, F, 52⟩, ⟨g1_1, .i64, 64, H, 52⟩, ⟨g1_2, .i64, 64, fun _ => 0, 52⟩, ⟨g2_5, .i64, 16, xR F H, 50⟩, ⟨g3_5, .i64, 16, yR F H, 50⟩, ⟨g4_5, .i64, 16, zR F H, 50⟩, ⟨g5_7, .i64, 16, tR F H, 50⟩, ⟨g6_15, .i64, 16, crR F H, 50⟩, ⟨(G 3), .i64, 16, loR F H, 50⟩] := hH
  clear hS hH HS6 HH6
  generalize G 3 = g7_3 at HS7 HH7
  refine then_ ?_
  refine wp_seq ?_
  have hLo : LOk [(0, 53, .val (.agg (FR .i64 16 (zR F H)))), (1, 54, .val (.agg (FR .i64 16 (tR F H)))), (2, 55, .val (.agg (FR .i64 16 (addR (zR F H) (tR F H))))), (3, 11, .ptr 3 0)] := lok rfl rfl
  refine zJ (wE := w) (sz := 72) (n := 5) [0, 1, 3, 7, 15] [(4, .val (.pointer (some ⟨g1_2, 0, none⟩))), (5, .val (.pointer (some ⟨g2_5, 0, none⟩))), (6, .val (.pointer (some ⟨g3_5, 0, none⟩))), (7, .val (.pointer (some ⟨g4_5, 0, none⟩))), (8, .val (.pointer (some ⟨g5_7, 0, none⟩))), (9, .val (.pointer (some ⟨g6_15, 0, none⟩))), (10, .val (.pointer (some ⟨g7_3, 0, none⟩))), (11, .ptr 3 0)] _ [⟨g1_0, none, none, .i64, 64, F, F, 52⟩, ⟨g1_1, none, none, .i64, 64, H, H, 52⟩, ⟨g1_2, none, none, .i64, 64, fun _ => 0, fun _ => 0, 52⟩, ⟨g2_5, none, none, .i64, 16, xR F H, xR F H, 50⟩, ⟨g3_5, none, none, .i64, 16, yR F H, yR F H, 50⟩, ⟨g4_5, none, none, .i64, 16, zR F H, zR F H, 50⟩, ⟨g5_7, none, none, .i64, 16, tR F H, tR F H, 50⟩, ⟨g6_15, none, none, .i64, 16, crR F H, crR F H, 50⟩, ⟨g7_3, none, none, .i64, 16, loR F H, loR F H, 50⟩, ⟨0, some 3, some 4, .i64, 16, fun _ => 0, addR (zR F H) (tR F H), 50⟩] rfl (by rfl) HH7 rfl rfl hLo rfl HS7 (slS 0 rfl rfl (slS 1 rfl rfl (slS 2 rfl rfl (slS 3 rfl rfl (slS 4 rfl rfl (slS 5 rfl rfl (slS 6 rfl rfl (slL 3 (d := 3) rfl (trivial))))))))) ?_ ?_
  · show ∀ i ∈ [0, 1, 2, 3, 4], _
    refine zA (zG 0 5 _ rfl rfl rfl rfl (fun _ _ _ _ => rfl) hLo rfl rfl rfl (by rfl) Tryd.underlying50 zL rfl (fun b G hb ho => zD rfl (HS7.get 3 rfl))) ?_
    refine zA (zG 1 6 _ rfl rfl rfl rfl (fun _ _ _ _ => rfl) hLo rfl rfl rfl (by rfl) Tryd.underlying50 zL rfl (fun b G hb ho => zD rfl (HS7.get 4 rfl))) ?_
    refine zA (zH 2 _ #[.agg (FR .i64 16 (zR F H)), .agg (FR .i64 16 (tR F H))] rfl rfl rfl (fun _ _ _ _ => rfl) hLo rfl rfl Tryd.func61 rfl rfl (fun b G hb ho => zU (zB hLo 0 rfl HS7.1 rfl (hb 0 (by rfl))) (zB hLo 1 rfl HS7.1 rfl (hb 1 (by rfl)))) (fun w hw => addR_c _ _ w (zR_Rn hF hH) (tR_Rn hF hH))) ?_
    refine zA (zK 3 9 .i64 16 50 (some 4) _ _ rfl rfl (fun _ _ _ _ => rfl) rfl hLo rfl rfl rfl rfl (by rfl) (fun b G w _ _ => by kernel_rfl)) ?_
    refine zA (zI 9 _ rfl rfl rfl rfl rfl (fun _ _ _ _ => rfl) rfl rfl rfl (by rfl) zL (fun b G hb ho => zB hLo 3 rfl HS7.1 rfl (hb 3 (by rfl))) (fun b G hb ho => zB hLo 2 rfl HS7.1 rfl (hb 2 (by rfl)))) ?_
    exact zE
  clear hLo
  intro G a8 w8 hS hH
  have HS8 : Sl a8 72 [(4, .pointer (some ⟨g1_2, 0, none⟩)), (5, .pointer (some ⟨g2_5, 0, none⟩)), (6, .pointer (some ⟨g3_5, 0, none⟩)), (7, .pointer (some ⟨g4_5, 0, none⟩)), (8, .pointer (some ⟨g5_7, 0, none⟩)), (9, .pointer (some ⟨g6_15, 0, none⟩)), (10, .pointer (some ⟨g7_3, 0, none⟩)), (11, .pointer (some ⟨(G 3), 0, none⟩))] := hS
  have HH8 : Held w w8 [⟨g1_0, .i64, 64, F, 52⟩, ⟨g1_1, .i64, 64, H, 52⟩, ⟨g1_2, .i64, 64, fun _ => 0, 52⟩, ⟨g2_5, .i64, 16, xR F H, 50⟩, ⟨g3_5, .i64, 16, yR F H, 50⟩, ⟨g4_5, .i64, 16, zR F H, 50⟩, ⟨g5_7, .i64, 16, tR F H, 50⟩, ⟨g6_15, .i64, 16, crR F H, 50⟩, ⟨g7_3, .i64, 16, loR F H, 50⟩, ⟨(G 3), .i64, 16, hiR F H, 50⟩] := hH
  clear hS hH HS7 HH7
  generalize G 3 = g8_3 at HS8 HH8
  refine then_ ?_
  refine wp_seq ?_
  have hLo : LOk [(0, 56, .val (.agg (FR .i64 16 (yR F H)))), (1, 57, .val (.agg (FR .i64 16 (xR F H)))), (2, 58, .val (.agg (FR .i64 16 (addR (yR F H) (xR F H))))), (3, 12, .ptr 3 0)] := lok rfl rfl
  refine zJ (wE := w) (sz := 72) (n := 5) [0, 1, 3, 7, 15] [(4, .val (.pointer (some ⟨g1_2, 0, none⟩))), (9, .val (.pointer (some ⟨g6_15, 0, none⟩))), (10, .val (.pointer (some ⟨g7_3, 0, none⟩))), (11, .val (.pointer (some ⟨g8_3, 0, none⟩))), (12, .ptr 3 0)] _ [⟨g1_0, none, none, .i64, 64, F, F, 52⟩, ⟨g1_1, none, none, .i64, 64, H, H, 52⟩, ⟨g1_2, none, none, .i64, 64, fun _ => 0, fun _ => 0, 52⟩, ⟨g2_5, none, none, .i64, 16, xR F H, xR F H, 50⟩, ⟨g3_5, none, none, .i64, 16, yR F H, yR F H, 50⟩, ⟨g4_5, none, none, .i64, 16, zR F H, zR F H, 50⟩, ⟨g5_7, none, none, .i64, 16, tR F H, tR F H, 50⟩, ⟨g6_15, none, none, .i64, 16, crR F H, crR F H, 50⟩, ⟨g7_3, none, none, .i64, 16, loR F H, loR F H, 50⟩, ⟨g8_3, none, none, .i64, 16, hiR F H, hiR F H, 50⟩, ⟨0, some 3, some 4, .i64, 16, fun _ => 0, addR (yR F H) (xR F H), 50⟩] rfl (by rfl) HH8 rfl rfl hLo rfl HS8 (slS 0 rfl rfl (slS 5 rfl rfl (slS 6 rfl rfl (slS 7 rfl rfl (slL 3 (d := 3) rfl (trivial)))))) ?_ ?_
  · show ∀ i ∈ [0, 1, 2, 3, 4], _
    refine zA (zG 0 4 _ rfl rfl rfl rfl (fun _ _ _ _ => rfl) hLo rfl rfl rfl (by rfl) Tryd.underlying50 zL rfl (fun b G hb ho => zD rfl (HS8.get 2 rfl))) ?_
    refine zA (zG 1 3 _ rfl rfl rfl rfl (fun _ _ _ _ => rfl) hLo rfl rfl rfl (by rfl) Tryd.underlying50 zL rfl (fun b G hb ho => zD rfl (HS8.get 1 rfl))) ?_
    refine zA (zH 2 _ #[.agg (FR .i64 16 (yR F H)), .agg (FR .i64 16 (xR F H))] rfl rfl rfl (fun _ _ _ _ => rfl) hLo rfl rfl Tryd.func61 rfl rfl (fun b G hb ho => zU (zB hLo 0 rfl HS8.1 rfl (hb 0 (by rfl))) (zB hLo 1 rfl HS8.1 rfl (hb 1 (by rfl)))) (fun w hw => addR_c _ _ w (yR_Rn hF hH) (xR_Rn hF hH))) ?_
    refine zA (zK 3 10 .i64 16 50 (some 4) _ _ rfl rfl (fun _ _ _ _ => rfl) rfl hLo rfl rfl rfl rfl (by rfl) (fun b G w _ _ => by kernel_rfl)) ?_
    refine zA (zI 10 _ rfl rfl rfl rfl rfl (fun _ _ _ _ => rfl) rfl rfl rfl (by rfl) zL (fun b G hb ho => zB hLo 3 rfl HS8.1 rfl (hb 3 (by rfl))) (fun b G hb ho => zB hLo 2 rfl HS8.1 rfl (hb 2 (by rfl)))) ?_
    exact zE
  clear hLo
  intro G a9 w9 hS hH
  have HS9 : Sl a9 72 [(4, .pointer (some ⟨g1_2, 0, none⟩)), (9, .pointer (some ⟨g6_15, 0, none⟩)), (10, .pointer (some ⟨g7_3, 0, none⟩)), (11, .pointer (some ⟨g8_3, 0, none⟩)), (12, .pointer (some ⟨(G 3), 0, none⟩))] := hS
  have HH9 : Held w w9 [⟨g1_0, .i64, 64, F, 52⟩, ⟨g1_1, .i64, 64, H, 52⟩, ⟨g1_2, .i64, 64, fun _ => 0, 52⟩, ⟨g2_5, .i64, 16, xR F H, 50⟩, ⟨g3_5, .i64, 16, yR F H, 50⟩, ⟨g4_5, .i64, 16, zR F H, 50⟩, ⟨g5_7, .i64, 16, tR F H, 50⟩, ⟨g6_15, .i64, 16, crR F H, 50⟩, ⟨g7_3, .i64, 16, loR F H, 50⟩, ⟨g8_3, .i64, 16, hiR F H, 50⟩, ⟨(G 3), .i64, 16, suR F H, 50⟩] := hH
  clear hS hH HS8 HH8
  generalize G 3 = g9_3 at HS9 HH9
  refine then_ ?_
  refine wp_seq ?_
  have hLo : LOk [(0, 59, .val (.agg (FR .i64 16 (crR F H)))), (1, 60, .val (.agg (FR .i64 16 (loR F H)))), (2, 61, .val (.agg (FR .i64 16 (mulR (crR F H) (loR F H))))), (3, 62, .val (.agg (FR .i64 16 (hiR F H)))), (4, 63, .val (.agg (FR .i64 16 (suR F H)))), (5, 64, .val (.agg (FR .i64 16 (mulR (hiR F H) (suR F H))))), (6, 65, .val (.agg (FR .i64 16 (loR F H)))), (7, 66, .val (.agg (FR .i64 16 (hiR F H)))), (8, 67, .val (.agg (FR .i64 16 (mulR (loR F H) (hiR F H))))), (9, 68, .val (.agg (FR .i64 16 (crR F H)))), (10, 69, .val (.agg (FR .i64 16 (suR F H)))), (11, 70, .val (.agg (FR .i64 16 (mulR (crR F H) (suR F H))))), (12, 71, .val (.agg (FR .i64 64 (pr4 (mulR (crR F H) (loR F H)) (mulR (hiR F H) (suR F H)) (mulR (loR F H) (hiR F H)) (mulR (crR F H) (suR F H))))))] := lok rfl rfl
  refine yK (wE := w) (sz := 72) (n := 14) (B := [0, 0, 3, 0, 0, 31, 0, 0, 255, 0, 0, 2047, 4095, 8191]) [0, 1, 2, 3, 4, 5, 6, 7, 8, 9, 10, 11, 12, 13] [(4, .val (.pointer (some ⟨g1_2, 0, none⟩)))] _ [⟨g1_0, none, none, .i64, 64, F, F, 52⟩, ⟨g1_1, none, none, .i64, 64, H, H, 52⟩, ⟨g1_2, none, some 13, .i64, 64, fun _ => 0, pr4 (mulR (crR F H) (loR F H)) (mulR (hiR F H) (suR F H)) (mulR (loR F H) (hiR F H)) (mulR (crR F H) (suR F H)), 52⟩, ⟨g2_5, none, none, .i64, 16, xR F H, xR F H, 50⟩, ⟨g3_5, none, none, .i64, 16, yR F H, yR F H, 50⟩, ⟨g4_5, none, none, .i64, 16, zR F H, zR F H, 50⟩, ⟨g5_7, none, none, .i64, 16, tR F H, tR F H, 50⟩, ⟨g6_15, none, none, .i64, 16, crR F H, crR F H, 50⟩, ⟨g7_3, none, none, .i64, 16, loR F H, loR F H, 50⟩, ⟨g8_3, none, none, .i64, 16, hiR F H, hiR F H, 50⟩, ⟨g9_3, none, none, .i64, 16, suR F H, suR F H, 50⟩] (by rfl) rfl tabaddR_9 bitsaddR_9 (by kernel_rfl) (by kernel_rfl) HH9 rfl rfl hLo rfl HS9 (slS 0 rfl rfl (trivial)) ?_ ?_
  · show ∀ i ∈ [0, 1, 2, 3, 4, 5, 6, 7, 8, 9, 10, 11, 12, 13], _
    refine zA (zG 0 7 _ rfl rfl rfl rfl (fun _ _ _ _ => rfl) hLo rfl rfl rfl (by rfl) Tryd.underlying50 zL rfl (fun b G hb ho => zD rfl (HS9.get 1 rfl))) ?_
    refine zA (zG 1 8 _ rfl rfl rfl rfl (fun _ _ _ _ => rfl) hLo rfl rfl rfl (by rfl) Tryd.underlying50 zL rfl (fun b G hb ho => zD rfl (HS9.get 2 rfl))) ?_
    refine zA (zH 2 _ #[.agg (FR .i64 16 (crR F H)), .agg (FR .i64 16 (loR F H))] rfl rfl rfl (fun _ _ _ _ => rfl) hLo rfl rfl Tryd.func45 rfl rfl (fun b G hb ho => zU (zB hLo 0 rfl HS9.1 rfl (hb 0 (by rfl))) (zB hLo 1 rfl HS9.1 rfl (hb 1 (by rfl)))) (fun w hw => mulR_c _ _ w (crR_Rn hF hH) (loR_Rn hF hH))) ?_
    refine zA (zG 3 9 _ rfl rfl rfl rfl (fun _ _ _ _ => rfl) hLo rfl rfl rfl (by rfl) Tryd.underlying50 zL rfl (fun b G hb ho => zD rfl (HS9.get 3 rfl))) ?_
    refine zA (zG 4 10 _ rfl rfl rfl rfl (fun _ _ _ _ => rfl) hLo rfl rfl rfl (by rfl) Tryd.underlying50 zL rfl (fun b G hb ho => zD rfl (HS9.get 4 rfl))) ?_
    refine zA (zH 5 _ #[.agg (FR .i64 16 (hiR F H)), .agg (FR .i64 16 (suR F H))] rfl rfl rfl (fun _ _ _ _ => rfl) hLo rfl rfl Tryd.func45 rfl rfl (fun b G hb ho => zU (zB hLo 3 rfl HS9.1 rfl (hb 3 (by rfl))) (zB hLo 4 rfl HS9.1 rfl (hb 4 (by rfl)))) (fun w hw => mulR_c _ _ w (hiR_Rn hF hH) (suR_Rn hF hH))) ?_
    refine zA (zG 6 8 _ rfl rfl rfl rfl (fun _ _ _ _ => rfl) hLo rfl rfl rfl (by rfl) Tryd.underlying50 zL rfl (fun b G hb ho => zD rfl (HS9.get 2 rfl))) ?_
    refine zA (zG 7 9 _ rfl rfl rfl rfl (fun _ _ _ _ => rfl) hLo rfl rfl rfl (by rfl) Tryd.underlying50 zL rfl (fun b G hb ho => zD rfl (HS9.get 3 rfl))) ?_
    refine zA (zH 8 _ #[.agg (FR .i64 16 (loR F H)), .agg (FR .i64 16 (hiR F H))] rfl rfl rfl (fun _ _ _ _ => rfl) hLo rfl rfl Tryd.func45 rfl rfl (fun b G hb ho => zU (zB hLo 6 rfl HS9.1 rfl (hb 6 (by rfl))) (zB hLo 7 rfl HS9.1 rfl (hb 7 (by rfl)))) (fun w hw => mulR_c _ _ w (loR_Rn hF hH) (hiR_Rn hF hH))) ?_
    refine zA (zG 9 7 _ rfl rfl rfl rfl (fun _ _ _ _ => rfl) hLo rfl rfl rfl (by rfl) Tryd.underlying50 zL rfl (fun b G hb ho => zD rfl (HS9.get 1 rfl))) ?_
    refine zA (zG 10 10 _ rfl rfl rfl rfl (fun _ _ _ _ => rfl) hLo rfl rfl rfl (by rfl) Tryd.underlying50 zL rfl (fun b G hb ho => zD rfl (HS9.get 4 rfl))) ?_
    refine zA (zH 11 _ #[.agg (FR .i64 16 (crR F H)), .agg (FR .i64 16 (suR F H))] rfl rfl rfl (fun _ _ _ _ => rfl) hLo rfl rfl Tryd.func45 rfl rfl (fun b G hb ho => zU (zB hLo 9 rfl HS9.1 rfl (hb 9 (by rfl))) (zB hLo 10 rfl HS9.1 rfl (hb 10 (by rfl)))) (fun w hw => mulR_c _ _ w (crR_Rn hF hH) (suR_Rn hF hH))) ?_
    refine zA (zC 12 _ rfl rfl hLo rfl rfl (fun _ _ _ _ => rfl) (fun b G w hb ho => zZ rfl (parts4 (zB hLo 2 rfl HS9.1 rfl (hb 2 (by rfl))) (zB hLo 5 rfl HS9.1 rfl (hb 5 (by rfl))) (zB hLo 8 rfl HS9.1 rfl (hb 8 (by rfl))) (zB hLo 11 rfl HS9.1 rfl (hb 11 (by rfl)))) (build_pr _ _ _ _ _))) ?_
    refine zA (zI 2 _ rfl rfl rfl rfl rfl (fun _ _ _ _ => rfl) rfl rfl rfl (by rfl) infoPr (fun b G hb ho => zD rfl (HS9.get 0 rfl)) (fun b G hb ho => zB hLo 12 rfl HS9.1 rfl (hb 12 (by rfl)))) ?_
    exact zE
  clear hLo
  intro G a10 w10 hS hH
  have HS10 : Sl a10 72 [(4, .pointer (some ⟨g1_2, 0, none⟩))] := hS
  have HH10 : Held w w10 [⟨g1_0, .i64, 64, F, 52⟩, ⟨g1_1, .i64, 64, H, 52⟩, ⟨g1_2, .i64, 64, addRP F H, 52⟩, ⟨g2_5, .i64, 16, xR F H, 50⟩, ⟨g3_5, .i64, 16, yR F H, 50⟩, ⟨g4_5, .i64, 16, zR F H, 50⟩, ⟨g5_7, .i64, 16, tR F H, 50⟩, ⟨g6_15, .i64, 16, crR F H, 50⟩, ⟨g7_3, .i64, 16, loR F H, 50⟩, ⟨g8_3, .i64, 16, hiR F H, 50⟩, ⟨g9_3, .i64, 16, suR F H, 50⟩] := hH
  clear hS hH HS9 HH9
  refine then_ ?_
  exact ret_row rfl HS10.2.1 (HS10.get 0 rfl) (HH10.row 2 rfl) Tryd.underlying52 rfl infoPr ⟨rfl, HH10.1⟩
theorem or_run (x : Int) (w : World) : (do eqGuard .or 5 (.tmp 19) (.const (.int .u8 128)) (.int .u8 x) (.int .u8 128); binOp .or 5 (.int .u8 x) (.int .u8 128) : Sem Value).run Tryd.prog w = .ok (.int .u8 (Go.bits .or .u8 x 128)) w := by rfl
theorem rinv {g : Nat → Int} (hg : Rn g) : Rn (invR g) := (Re.pow (n := V16 g) ⟨hg, rfl⟩ (exB 255 21) 256).1
def yE (F : Nat → Int) : Nat → Int := mulE (co F 5) (invE (co F 10))
def xE (F : Nat → Int) : Nat → Int := mulE (co F 0) (invE (co F 10))
theorem yE_Lm {F : Nat → Int} (hF : PL F) : Lm (yE F) := lmul hF.2.1 (linv hF.2.2.1)
theorem xE_Lm {F : Nat → Int} (hF : PL F) : Lm (xE F) := lmul hF.1 (linv hF.2.2.1)
def yB (F : Nat → Int) : Nat → Int := dig 256 (V51 (yE F) % PP)
def oddE (F : Nat → Int) : Bool := decide (V51 (xE F) % PP % 2 = 1)
def bytesP (F : Nat → Int) : Nat → Int := if oddE F then upd (yB F) 31 (Go.bits .or .u8 (yB F 31) 128) else yB F
theorem bytesP_n {F Y : Nat → Int} (h : oddE F = false) (hY : yB F = Y) : bytesP F = Y := by unfold bytesP; rw [h, if_neg (by decide)]; exact hY
theorem bytesP_y {F Y : Nat → Int} (h : oddE F = true) (hY : yB F = Y) : bytesP F = upd Y 31 (Go.bits .or .u8 (Y 31) 128) := by unfold bytesP; rw [h, if_pos rfl, hY]
theorem bytes_r {f Y : Nat → Int} (hf : Lm f) (h : dig 256 (V51 f % PP) = Y) (w : World) : Calls Tryd.prog 40 #[.agg (FR .u64 5 f)] w fun e w' => e = .returned (.agg (FR .u8 32 Y)) ∧ Below w.heap.size w w' := by
  rw [← h]; exact elem_bytes_calls f w hf.c
theorem odd_r {f : Nat → Int} {r : Bool} (hf : Lm f) (h : decide (V51 f % PP % 2 = 1) = r) (w : World) : Calls Tryd.prog 41 #[.agg (FR .u64 5 f)] w fun e w' => e = .returned (.bool r) ∧ Below w.heap.size w w' := by
  rw [← h]; exact elem_odd_calls f w hf.c
theorem is_r {f g : Nat → Int} {r : Bool} (hf : Lm f) (hg : Lm g) (h : decide (V51 f % PP = V51 g % PP) = r) (w : World) : Calls Tryd.prog 53 #[.agg (FR .u64 5 f), .agg (FR .u64 5 g)] w fun e w' => e = .returned (.bool r) ∧ Below w.heap.size w w' := by
  rw [← h]; exact elem_is_calls f g w hf.c hg.c
theorem bytes_pt (F : Nat → Int) (w : World) (hF : PL F) : Calls Tryd.prog 19 #[.agg (FR .u64 20 F)] w fun e w' => e = .returned (.agg (FR .u8 32 (bytesP F))) ∧ Below w.heap.size w w' := by
  obtain ⟨r, hr⟩ : ∃ r, oddE F = r := ⟨_, rfl⟩
  obtain ⟨Y, hY⟩ : ∃ Y, yB F = Y := ⟨_, rfl⟩
  refine enter_ 23 Tryd.func19 rfl rfl (fun a0 hS => ?_)
  have HS0 : Sl a0 23 [(0, .agg (FR .u64 20 F))] := hS
  have HH0 : Held w w [] := Held.first w
  clear hS
  refine wp_seq ?_
  have hLo : LOk [(0, 1, .ptr 0 0), (1, 2, .ptr 1 0)] := lok rfl rfl
  refine zJ (wE := w) (sz := 23) (n := 2) [0, 1] [(1, .ptr 0 0), (2, .ptr 1 0)] _ [⟨0, some 0, none, .u64, 20, F, F, 42⟩, ⟨0, some 1, none, .u8, 32, fun _ => 0, fun _ => 0, 22⟩] rfl (by rfl) HH0 rfl rfl hLo rfl HS0 (slL 0 (d := 0) rfl (slL 1 (d := 1) rfl (trivial))) ?_ ?_
  · show ∀ i ∈ [0, 1], _
    refine zA (zK 0 0 .u64 20 42 none _ _ rfl rfl (fun _ _ _ _ => rfl) rfl hLo rfl rfl rfl rfl (by rfl) (fun b G w hb ho => exec_box rfl (zD rfl (HS0.get 0 rfl)) (by kernel_rfl))) ?_
    refine zA (zK 1 1 .u8 32 22 none _ _ rfl rfl (fun _ _ _ _ => rfl) rfl hLo rfl rfl rfl rfl (by rfl) (fun b G w _ _ => by kernel_rfl)) ?_
    exact zE
  clear hLo
  intro G a1 w1 hS hH
  have HS1 : Sl a1 23 [(1, .pointer (some ⟨(G 0), 0, none⟩)), (2, .pointer (some ⟨(G 1), 0, none⟩))] := hS
  have HH1 : Held w w1 [⟨(G 0), .u64, 20, F, 42⟩, ⟨(G 1), .u8, 32, fun _ => 0, 22⟩] := hH
  clear hS hH HS0 HH0
  generalize G 0 = g1_0 at HS1 HH1
  generalize G 1 = g1_1 at HS1 HH1
  refine then_ ?_
  refine wp_seq ?_
  have hLo : LOk [(0, 5, .val (.pointer (some ⟨g1_0, 10, none⟩))), (1, 6, .val (.agg (FR .u64 5 (co (F) 10)))), (2, 7, .val (.agg (FR .u64 5 (invE (co (F) 10))))), (3, 3, .ptr 3 0)] := lok rfl rfl
  refine zJ (wE := w) (sz := 23) (n := 5) [0, 1, 3, 7, 15] [(1, .val (.pointer (some ⟨g1_0, 0, none⟩))), (2, .val (.pointer (some ⟨g1_1, 0, none⟩))), (3, .ptr 3 0)] _ [⟨g1_0, none, none, .u64, 20, F, F, 42⟩, ⟨g1_1, none, none, .u8, 32, fun _ => 0, fun _ => 0, 22⟩, ⟨0, some 3, some 4, .u64, 5, fun _ => 0, invE (co (F) 10), 40⟩] rfl (by rfl) HH1 rfl rfl hLo rfl HS1 (slS 0 rfl rfl (slS 1 rfl rfl (slL 3 (d := 3) rfl (trivial)))) ?_ ?_
  · show ∀ i ∈ [0, 1, 2, 3, 4], _
    refine zA (zC 0 _ rfl rfl hLo rfl rfl (fun _ _ _ _ => rfl) (fun b G w hb ho => zT rfl (zD rfl (HS1.get 0 rfl)) (by kernel_rfl))) ?_
    refine zA (yA 1 0 _ 10 5 rfl rfl rfl rfl (fun _ _ _ _ => rfl) hLo rfl rfl rfl (by rfl) (Nat.le_of_ble_eq_true rfl) Tryd.underlying40 zO rfl (fun b G hb ho => zB hLo 0 rfl HS1.1 rfl (hb 0 (by rfl)))) ?_
    refine zA (zH 2 _ #[.agg (FR .u64 5 (co (F) 10))] rfl rfl rfl (fun _ _ _ _ => rfl) hLo rfl rfl Tryd.func38 rfl rfl (fun b G hb ho => args1 (zB hLo 1 rfl HS1.1 rfl (hb 1 (by rfl)))) (fun w hw => invE_calls _ w (hF).2.2.1)) ?_
    refine zA (zK 3 2 .u64 5 40 (some 4) _ _ rfl rfl (fun _ _ _ _ => rfl) rfl hLo rfl rfl rfl rfl (by rfl) (fun b G w _ _ => by kernel_rfl)) ?_
    refine zA (zI 2 _ rfl rfl rfl rfl rfl (fun _ _ _ _ => rfl) rfl rfl rfl (by rfl) zO (fun b G hb ho => zB hLo 3 rfl HS1.1 rfl (hb 3 (by rfl))) (fun b G hb ho => zB hLo 2 rfl HS1.1 rfl (hb 2 (by rfl)))) ?_
    exact zE
  clear hLo
  intro G a2 w2 hS hH
  have HS2 : Sl a2 23 [(1, .pointer (some ⟨g1_0, 0, none⟩)), (2, .pointer (some ⟨g1_1, 0, none⟩)), (3, .pointer (some ⟨(G 3), 0, none⟩))] := hS
  have HH2 : Held w w2 [⟨g1_0, .u64, 20, F, 42⟩, ⟨g1_1, .u8, 32, fun _ => 0, 22⟩, ⟨(G 3), .u64, 5, invE (co F 10), 40⟩] := hH
  clear hS hH HS1 HH1
  generalize G 3 = g2_3 at HS2 HH2
  refine then_ ?_
  refine wp_seq ?_
  have hLo : LOk [(0, 8, .val (.pointer (some ⟨g1_0, 5, none⟩))), (1, 9, .val (.agg (FR .u64 5 (co (F) 5)))), (2, 10, .val (.agg (FR .u64 5 (invE (co F 10))))), (3, 11, .val (.agg (FR .u64 5 (mulE (co (F) 5) (invE (co F 10)))))), (4, 12, .val (.agg (FR .u8 32 (Y)))), (5, 4, .ptr 5 0)] := lok rfl rfl
  refine zJ (wE := w) (sz := 23) (n := 7) [0, 1, 3, 7, 15, 31, 63] [(1, .val (.pointer (some ⟨g1_0, 0, none⟩))), (2, .val (.pointer (some ⟨g1_1, 0, none⟩))), (3, .val (.pointer (some ⟨g2_3, 0, none⟩))), (4, .ptr 5 0)] _ [⟨g1_0, none, none, .u64, 20, F, F, 42⟩, ⟨g1_1, none, none, .u8, 32, fun _ => 0, fun _ => 0, 22⟩, ⟨g2_3, none, none, .u64, 5, invE (co F 10), invE (co F 10), 40⟩, ⟨0, some 5, some 6, .u8, 32, fun _ => 0, Y, 22⟩] rfl (by rfl) HH2 rfl rfl hLo rfl HS2 (slS 0 rfl rfl (slS 1 rfl rfl (slS 2 rfl rfl (slL 5 (d := 5) rfl (trivial))))) ?_ ?_
  · show ∀ i ∈ [0, 1, 2, 3, 4, 5, 6], _
    refine zA (zC 0 _ rfl rfl hLo rfl rfl (fun _ _ _ _ => rfl) (fun b G w hb ho => zT rfl (zD rfl (HS2.get 0 rfl)) (by kernel_rfl))) ?_
    refine zA (yA 1 0 _ 5 5 rfl rfl rfl rfl (fun _ _ _ _ => rfl) hLo rfl rfl rfl (by rfl) (Nat.le_of_ble_eq_true rfl) Tryd.underlying40 zO rfl (fun b G hb ho => zB hLo 0 rfl HS2.1 rfl (hb 0 (by rfl)))) ?_
    refine zA (zG 2 2 _ rfl rfl rfl rfl (fun _ _ _ _ => rfl) hLo rfl rfl rfl (by rfl) Tryd.underlying40 zO rfl (fun b G hb ho => zD rfl (HS2.get 2 rfl))) ?_
    refine zA (zH 3 _ #[.agg (FR .u64 5 (co (F) 5)), .agg (FR .u64 5 (invE (co F 10)))] rfl rfl rfl (fun _ _ _ _ => rfl) hLo rfl rfl Tryd.func39 rfl rfl (fun b G hb ho => zU (zB hLo 1 rfl HS2.1 rfl (hb 1 (by rfl))) (zB hLo 2 rfl HS2.1 rfl (hb 2 (by rfl)))) (fun w hw => zS _ _ w (hF).2.1 (linv hF.2.2.1))) ?_
    refine zA (zH 4 _ #[.agg (FR .u64 5 (mulE (co (F) 5) (invE (co F 10))))] rfl rfl rfl (fun _ _ _ _ => rfl) hLo rfl rfl Tryd.func40 rfl rfl (fun b G hb ho => args1 (zB hLo 3 rfl HS2.1 rfl (hb 3 (by rfl)))) (fun w hw => bytes_r (yE_Lm hF) hY w)) ?_
    refine zA (zK 5 3 .u8 32 22 (some 6) _ _ rfl rfl (fun _ _ _ _ => rfl) rfl hLo rfl rfl rfl rfl (by rfl) (fun b G w _ _ => by kernel_rfl)) ?_
    refine zA (zI 3 _ rfl rfl rfl rfl rfl (fun _ _ _ _ => rfl) rfl rfl rfl (by rfl) infoB3 (fun b G hb ho => zB hLo 5 rfl HS2.1 rfl (hb 5 (by rfl))) (fun b G hb ho => zB hLo 4 rfl HS2.1 rfl (hb 4 (by rfl)))) ?_
    exact zE
  clear hLo
  intro G a3 w3 hS hH
  have HS3 : Sl a3 23 [(1, .pointer (some ⟨g1_0, 0, none⟩)), (2, .pointer (some ⟨g1_1, 0, none⟩)), (3, .pointer (some ⟨g2_3, 0, none⟩)), (4, .pointer (some ⟨(G 5), 0, none⟩))] := hS
  have HH3 : Held w w3 [⟨g1_0, .u64, 20, F, 42⟩, ⟨g1_1, .u8, 32, fun _ => 0, 22⟩, ⟨g2_3, .u64, 5, invE (co F 10), 40⟩, ⟨(G 5), .u8, 32, Y, 22⟩] := hH
  clear hS hH HS2 HH2
  generalize G 5 = g3_5 at HS3 HH3
  refine then_ ?_
  refine wp_seq ?_
  refine wp_seq ?_
  have hLo : LOk [(0, 13, .val (.pointer (some ⟨g1_0, 0, none⟩))), (1, 14, .val (.agg (FR .u64 5 (co (F) 0)))), (2, 15, .val (.agg (FR .u64 5 (invE (co F 10))))), (3, 16, .val (.agg (FR .u64 5 (mulE (co (F) 0) (invE (co F 10)))))), (4, 17, .val (.bool r))] := lok rfl rfl
  refine zJ (wE := w) (sz := 23) (n := 5) [0, 1, 3, 7, 15] [(2, .val (.pointer (some ⟨g1_1, 0, none⟩))), (4, .val (.pointer (some ⟨g3_5, 0, none⟩))), (17, .val (.bool r))] _ [⟨g1_0, none, none, .u64, 20, F, F, 42⟩, ⟨g1_1, none, none, .u8, 32, fun _ => 0, fun _ => 0, 22⟩, ⟨g2_3, none, none, .u64, 5, invE (co F 10), invE (co F 10), 40⟩, ⟨g3_5, none, none, .u8, 32, Y, Y, 22⟩] rfl (by rfl) HH3 rfl rfl hLo rfl HS3 (slS 1 rfl rfl (slS 3 rfl rfl (slL 4 (d := 4) rfl (trivial)))) ?_ ?_
  · show ∀ i ∈ [0, 1, 2, 3, 4], _
    refine zA (zC 0 _ rfl rfl hLo rfl rfl (fun _ _ _ _ => rfl) (fun b G w hb ho => zT rfl (zD rfl (HS3.get 0 rfl)) (by kernel_rfl))) ?_
    refine zA (yA 1 0 _ 0 5 rfl rfl rfl rfl (fun _ _ _ _ => rfl) hLo rfl rfl rfl (by rfl) (Nat.le_of_ble_eq_true rfl) Tryd.underlying40 zO rfl (fun b G hb ho => zB hLo 0 rfl HS3.1 rfl (hb 0 (by rfl)))) ?_
    refine zA (zG 2 2 _ rfl rfl rfl rfl (fun _ _ _ _ => rfl) hLo rfl rfl rfl (by rfl) Tryd.underlying40 zO rfl (fun b G hb ho => zD rfl (HS3.get 2 rfl))) ?_
    refine zA (zH 3 _ #[.agg (FR .u64 5 (co (F) 0)), .agg (FR .u64 5 (invE (co F 10)))] rfl rfl rfl (fun _ _ _ _ => rfl) hLo rfl rfl Tryd.func39 rfl rfl (fun b G hb ho => zU (zB hLo 1 rfl HS3.1 rfl (hb 1 (by rfl))) (zB hLo 2 rfl HS3.1 rfl (hb 2 (by rfl)))) (fun w hw => zS _ _ w (hF).1 (linv hF.2.2.1))) ?_
    refine zA (zH 4 _ #[.agg (FR .u64 5 (mulE (co (F) 0) (invE (co F 10))))] rfl rfl rfl (fun _ _ _ _ => rfl) hLo rfl rfl Tryd.func41 rfl rfl (fun b G hb ho => args1 (zB hLo 3 rfl HS3.1 rfl (hb 3 (by rfl)))) (fun w hw => odd_r (xE_Lm hF) hr w)) ?_
    exact zE
  clear hLo
  intro G a4 w4 hS hH
  have HS4 : Sl a4 23 [(2, .pointer (some ⟨g1_1, 0, none⟩)), (4, .pointer (some ⟨g3_5, 0, none⟩)), (17, .bool r)] := hS
  have HH4 : Held w w4 [⟨g1_0, .u64, 20, F, 42⟩, ⟨g1_1, .u8, 32, fun _ => 0, 22⟩, ⟨g2_3, .u64, 5, invE (co F 10), 40⟩, ⟨g3_5, .u8, 32, Y, 22⟩] := hH
  clear hS hH HS3 HH3
  refine then_ ?_
  cases r
  · skip
    refine wp_cond_false (HS4.get 2 rfl) ?_
    refine wp_skip ?_
    refine then_ ?_
    refine wp_seq ?_
    have hLo : LOk [(0, 22, .val (.agg (FR .u8 32 (Y))))] := lok rfl rfl
    refine zJ (wE := w) (sz := 23) (n := 2) [0, 1] [(2, .val (.pointer (some ⟨g1_1, 0, none⟩)))] _ [⟨g1_0, none, none, .u64, 20, F, F, 42⟩, ⟨g1_1, none, some 1, .u8, 32, fun _ => 0, Y, 22⟩, ⟨g2_3, none, none, .u64, 5, invE (co F 10), invE (co F 10), 40⟩, ⟨g3_5, none, none, .u8, 32, Y, Y, 22⟩] rfl (by rfl) HH4 rfl rfl hLo rfl HS4 (slS 0 rfl rfl (trivial)) ?_ ?_
    · show ∀ i ∈ [0, 1], _
      refine zA (zG 0 3 _ rfl rfl rfl rfl (fun _ _ _ _ => rfl) hLo rfl rfl rfl (by rfl) Tryd.underlying22 infoB3 rfl (fun b G hb ho => zD rfl (HS4.get 1 rfl))) ?_
      refine zA (zI 1 _ rfl rfl rfl rfl rfl (fun _ _ _ _ => rfl) rfl rfl rfl (by rfl) infoB3 (fun b G hb ho => zD rfl (HS4.get 0 rfl)) (fun b G hb ho => zB hLo 0 rfl HS4.1 rfl (hb 0 (by rfl)))) ?_
      exact zE
    clear hLo
    intro G a5 w5 hS hH
    have HS5 : Sl a5 23 [(2, .pointer (some ⟨g1_1, 0, none⟩))] := hS
    have HH5 : Held w w5 [⟨g1_0, .u64, 20, F, 42⟩, ⟨g1_1, .u8, 32, Y, 22⟩, ⟨g2_3, .u64, 5, invE (co F 10), 40⟩, ⟨g3_5, .u8, 32, Y, 22⟩] := hH
    clear hS hH HS4 HH4
    refine then_ ?_
    refine wp_ret ?_
    repeat refine yC ?_
    exact b_row rfl HS5.2.1 (HS5.get 0 rfl) (HH5.row 1 rfl) Tryd.underlying22 rfl infoB3 ⟨by rw [bytesP_n hr hY], HH5.1⟩
  · skip
    refine wp_cond_true (HS4.get 2 rfl) ?_
    have hLo : LOk [(0, 18, .val (.pointer (some ⟨g3_5, 31, none⟩))), (1, 19, .val (.int .u8 ((Y) 31))), (2, 20, .val (.int .u8 (Go.bits .or .u8 (Y 31) 128))), (3, 21, .val (.pointer (some ⟨g3_5, 31, none⟩)))] := lok rfl rfl
    refine zJ (wE := w) (sz := 23) (n := 5) [0, 1, 3, 7, 15] [(2, .val (.pointer (some ⟨g1_1, 0, none⟩))), (4, .val (.pointer (some ⟨g3_5, 0, none⟩)))] _ [⟨g1_0, none, none, .u64, 20, F, F, 42⟩, ⟨g1_1, none, none, .u8, 32, fun _ => 0, fun _ => 0, 22⟩, ⟨g2_3, none, none, .u64, 5, invE (co F 10), invE (co F 10), 40⟩, ⟨g3_5, none, some 4, .u8, 32, Y, upd (Y) 31 ((Go.bits .or .u8 (Y 31) 128)), 22⟩] rfl (by rfl) HH4 rfl rfl hLo rfl HS4 (slS 0 rfl rfl (slS 1 rfl rfl (trivial))) ?_ ?_
    · show ∀ i ∈ [0, 1, 2, 3, 4], _
      refine zA (zC 0 _ rfl rfl hLo rfl rfl (fun _ _ _ _ => rfl) (fun b G w hb ho => exec_indexAddr rfl (zD rfl (HS4.get 1 rfl)) (rfl) (by kernel_rfl))) ?_
      refine zA (st_read 1 3 _ _ rfl rfl rfl hLo rfl rfl (fun _ _ _ _ => rfl) (by rfl) (by rfl) (fun b G w hb ho hr => exec_cell hr (Nat.le_of_ble_eq_true rfl) Tryd.underlying5 rfl rfl (zB hLo 0 rfl HS4.1 rfl (hb 0 (by rfl))))) ?_
      refine zA (zC 2 _ rfl rfl hLo rfl rfl (fun _ _ _ _ => rfl) (fun b G w hb ho => zV rfl (zB hLo 1 rfl HS4.1 rfl (hb 1 (by rfl))) (rfl) (or_run _ _))) ?_
      refine zA (zC 3 _ rfl rfl hLo rfl rfl (fun _ _ _ _ => rfl) (fun b G w hb ho => exec_indexAddr rfl (zD rfl (HS4.get 1 rfl)) (rfl) (by kernel_rfl))) ?_
      refine zA (st_put 3 _ rfl rfl rfl rfl (fun _ _ _ _ => rfl) rfl rfl rfl (by rfl) (fun b G w hb ho hr => exec_put1 hr (Nat.le_of_ble_eq_true rfl) Fd.info5s rfl (zB hLo 3 rfl HS4.1 rfl (hb 3 (by rfl))) (zB hLo 2 rfl HS4.1 rfl (hb 2 (by rfl))))) ?_
      exact zE
    clear hLo
    intro G a6 w6 hS hH
    have HS6 : Sl a6 23 [(2, .pointer (some ⟨g1_1, 0, none⟩)), (4, .pointer (some ⟨g3_5, 0, none⟩))] := hS
    have HH6 : Held w w6 [⟨g1_0, .u64, 20, F, 42⟩, ⟨g1_1, .u8, 32, fun _ => 0, 22⟩, ⟨g2_3, .u64, 5, invE (co F 10), 40⟩, ⟨g3_5, .u8, 32, upd (Y) 31 ((Go.bits .or .u8 (Y 31) 128)), 22⟩] := hH
    clear hS hH HS4 HH4
    refine then_ ?_
    refine wp_seq ?_
    have hLo : LOk [(0, 22, .val (.agg (FR .u8 32 (upd (Y) 31 ((Go.bits .or .u8 (Y 31) 128))))))] := lok rfl rfl
    refine zJ (wE := w) (sz := 23) (n := 2) [0, 1] [(2, .val (.pointer (some ⟨g1_1, 0, none⟩)))] _ [⟨g1_0, none, none, .u64, 20, F, F, 42⟩, ⟨g1_1, none, some 1, .u8, 32, fun _ => 0, upd (Y) 31 ((Go.bits .or .u8 (Y 31) 128)), 22⟩, ⟨g2_3, none, none, .u64, 5, invE (co F 10), invE (co F 10), 40⟩, ⟨g3_5, none, none, .u8, 32, upd (Y) 31 ((Go.bits .or .u8 (Y 31) 128)), upd (Y) 31 ((Go.bits .or .u8 (Y 31) 128)), 22⟩] rfl (by rfl) HH6 rfl rfl hLo rfl HS6 (slS 0 rfl rfl (trivial)) ?_ ?_
    · show ∀ i ∈ [0, 1], _
      refine zA (zG 0 3 _ rfl rfl rfl rfl (fun _ _ _ _ => rfl) hLo rfl rfl rfl (by rfl) Tryd.underlying22 infoB3 rfl (fun b G hb ho => zD rfl (HS6.get 1 rfl))) ?_
      refine zA (zI 1 _ rfl rfl rfl rfl rfl (fun _ _ _ _ => rfl) rfl rfl rfl (by rfl) infoB3 (fun b G hb ho => zD rfl (HS6.get 0 rfl)) (fun b G hb ho => zB hLo 0 rfl HS6.1 rfl (hb 0 (by rfl)))) ?_
      exact zE
    clear hLo
    intro G a7 w7 hS hH
    have HS7 : Sl a7 23 [(2, .pointer (some ⟨g1_1, 0, none⟩))] := hS
    have HH7 : Held w w7 [⟨g1_0, .u64, 20, F, 42⟩, ⟨g1_1, .u8, 32, upd (Y) 31 ((Go.bits .or .u8 (Y 31) 128)), 22⟩, ⟨g2_3, .u64, 5, invE (co F 10), 40⟩, ⟨g3_5, .u8, 32, upd (Y) 31 ((Go.bits .or .u8 (Y 31) 128)), 22⟩] := hH
    clear hS hH HS6 HH6
    refine then_ ?_
    refine wp_ret ?_
    repeat refine yC ?_
    exact b_row rfl HS7.2.1 (HS7.get 0 rfl) (HH7.row 1 rfl) Tryd.underlying22 rfl infoB3 ⟨by rw [bytesP_y hr hY], HH7.1⟩
theorem isE_bool {f g : Nat → Int} {n m : Int} (hf : Fe f n) (hg : Fe g m) {r : Bool} (h : decide (n % PP = m % PP) = r) (w : World) : Calls Tryd.prog 53 #[.agg (FR .u64 5 f), .agg (FR .u64 5 g)] w fun e w' => e = .returned (.bool r) ∧ Below w.heap.size w w' := elem_is_bool f g hf.1 hg.1 r (by rw [hf.2, hg.2]; exact h) w
theorem pow_x0 {f X : Nat → Int} (h : x0E f = X) (w : World) (hf : Lm f) : Calls Tryd.prog 68 #[.agg (FR .u64 5 f), .agg (FR .u8 32 (exB 252 2))] w fun e' w' => e' = .returned (.agg (FR .u64 5 X)) ∧ Below w.heap.size w w' := by rw [← h]; exact pow_elem f _ w hf (exB_By _ _)
theorem pow_i (w : World) : Calls Tryd.prog 68 #[.agg (FR .u64 5 (smL 2)), .agg (FR .u8 32 (exB 253 5))] w fun e' w' => e' = .returned (.agg (FR .u64 5 iE)) ∧ Below w.heap.size w w' := pow_elem _ _ w (smL_Lm 2 (by omega)) (exB_By _ _)
theorem powR_x0 {f X : Nat → Int} (h : x0R f = X) (w : World) (hf : Rn f) : Calls Tryd.prog 76 #[.agg (FR .i64 16 f), .string (sOf (exB 252 2))] w fun e' w' => e' = .returned (.agg (FR .i64 16 X)) ∧ Below w.heap.size w w' := by rw [← h]; exact pow_ref f _ w hf (exB_By _ _)
theorem powR_i (w : World) : Calls Tryd.prog 76 #[.agg (FR .i64 16 (zM (fun i => if i = 0 then 2 else 0) 16)), .string (sOf (exB 253 5))] w fun e' w' => e' = .returned (.agg (FR .i64 16 iR)) ∧ Below w.heap.size w w' := pow_ref _ _ w (Re.small 2 (by omega)).1 (exB_By _ _)
theorem tabrtE_1 : rtab .any (opsOf Tryd.f52 1) = (true, [([], []), ([], []), ([0, 1, 1], [0, 1]), ([], []), ([3, 2, 2, 0, 1, 2, 3], [2, 3])]) := by kernel_rfl
theorem bitsrtE_1 : zW [([], []), ([], []), ([0, 1, 1], [0, 1]), ([], []), ([3, 2, 2, 0, 1, 2, 3], [2, 3])] [0, 0, 3, 0, 15] = true := by kernel_rfl
theorem tabrtE_2 : rtab .any (opsOf Tryd.f52 2) = (true, [([], []), ([], []), ([0, 1], [0, 1]), ([], []), ([2, 3, 2], [2, 3]), ([4], [4])]) := by kernel_rfl
theorem bitsrtE_2 : zW [([], []), ([], []), ([0, 1], [0, 1]), ([], []), ([2, 3, 2], [2, 3]), ([4], [4])] [0, 0, 3, 0, 15, 31] = true := by kernel_rfl
theorem tabrtE_3 : rtab .any (opsOf Tryd.f52 3) = (true, [([], []), ([], []), ([1], []), ([1, 2, 2], [1, 2]), ([0, 3, 3], [0, 3]), ([4, 4, 0, 1, 2, 3, 4], [4])]) := by kernel_rfl
theorem bitsrtE_3 : zW [([], []), ([], []), ([1], []), ([1, 2, 2], [1, 2]), ([0, 3, 3], [0, 3]), ([4, 4, 0, 1, 2, 3, 4], [4])] [0, 0, 2, 6, 15, 31] = true := by kernel_rfl
theorem tabrtE_4 : rtab .any (opsOf Tryd.f52 4) = (true, [([], []), ([], []), ([0, 1], [0, 1]), ([], []), ([2, 3, 2], [2, 3]), ([4], [4])]) := by kernel_rfl
theorem bitsrtE_4 : zW [([], []), ([], []), ([0, 1], [0, 1]), ([], []), ([2, 3, 2], [2, 3]), ([4], [4])] [0, 0, 3, 0, 15, 31] = true := by kernel_rfl
theorem tabrtR_1 : rtab .any (opsOf Tryd.f63 1) = (true, [([], []), ([], []), ([0, 1, 1], [0, 1]), ([], []), ([3, 2, 2, 0, 1, 2, 3], [2, 3])]) := by kernel_rfl
theorem bitsrtR_1 : zW [([], []), ([], []), ([0, 1, 1], [0, 1]), ([], []), ([3, 2, 2, 0, 1, 2, 3], [2, 3])] [0, 0, 3, 0, 15] = true := by kernel_rfl
theorem tabrtR_2 : rtab .any (opsOf Tryd.f63 2) = (true, [([], []), ([], []), ([1], []), ([1, 2, 2], [1, 2]), ([0, 3, 3], [0, 3]), ([], []), ([5, 4, 4, 0, 1, 2, 3, 4, 5], [4, 5])]) := by kernel_rfl
theorem bitsrtR_2 : zW [([], []), ([], []), ([1], []), ([1, 2, 2], [1, 2]), ([0, 3, 3], [0, 3]), ([], []), ([5, 4, 4, 0, 1, 2, 3, 4, 5], [4, 5])] [0, 0, 2, 6, 15, 0, 63] = true := by kernel_rfl
theorem tabrtR_3 : rtab .any (opsOf Tryd.f63 3) = (true, [([], []), ([], []), ([0, 1], [0, 1]), ([], []), ([2, 3, 2], [2, 3]), ([4], [4])]) := by kernel_rfl
theorem bitsrtR_3 : zW [([], []), ([], []), ([0, 1], [0, 1]), ([], []), ([2, 3, 2], [2, 3]), ([4], [4])] [0, 0, 3, 0, 15, 31] = true := by kernel_rfl
theorem tabrtR_5 : rtab .any (opsOf Tryd.f63 5) = (true, [([], []), ([], []), ([0, 1], [0, 1]), ([], []), ([2, 3, 2], [2, 3]), ([4], [4])]) := by kernel_rfl
theorem bitsrtR_5 : zW [([], []), ([], []), ([0, 1], [0, 1]), ([], []), ([2, 3, 2], [2, 3]), ([4], [4])] [0, 0, 3, 0, 15, 31] = true := by kernel_rfl
theorem rootE_calls (f : Nat → Int) (n : Int) (w : World) (hf : Fe f n) : Calls Tryd.prog 52 #[.agg (FR .u64 5 f)] w fun e w' => e = .returned (.tuple #[.agg (FR .u64 5 (rtE f n)), .bool (rOk iZ n)]) ∧ Below w.heap.size w w' := by
  have hl : Lm f := hf.1
  obtain ⟨X, hX⟩ : ∃ X, x0E f = X := ⟨_, rfl⟩
  have hXf : Fe X (x0N n) := by rw [← hX]; exact x0E_Fe hf
  have hXl := hXf.1
  obtain ⟨Y, hY⟩ : ∃ Y, x1E f n = Y := ⟨_, rfl⟩
  have hYf : Fe Y (x1N iZ n) := by rw [← hY]; exact x1E_Fe hf
  have hYl := hYf.1
  obtain ⟨r0, hr0⟩ : ∃ r, sq0 n = r := ⟨_, rfl⟩
  obtain ⟨r1, hr1⟩ : ∃ r, rOk iZ n = r := ⟨_, rfl⟩
  obtain ⟨r2, hr2⟩ : ∃ r, rOdd iZ n = r := ⟨_, rfl⟩
  rw [hr1]
  refine enter_ 31 Tryd.func52 rfl rfl (fun a0 hS => ?_)
  have HS0 : Sl a0 31 [(0, .agg (FR .u64 5 f))] := hS
  have HH0 : Held w w [] := Held.first w
  clear hS
  refine wp_seq ?_
  have hLo : LOk [(0, 1, .ptr 0 0), (1, 2, .ptr 1 0), (2, 3, .val (.bool false))] := lok rfl rfl
  refine zJ (wE := w) (sz := 31) (n := 3) [0, 1, 3] [(1, .ptr 0 0), (2, .ptr 1 0)] _ [⟨0, some 0, none, .u64, 5, f, f, 40⟩, ⟨0, some 1, none, .u64, 5, fun _ => 0, fun _ => 0, 40⟩] rfl (by rfl) HH0 rfl rfl hLo rfl HS0 (slL 0 (d := 0) rfl (slL 1 (d := 1) rfl (trivial))) ?_ ?_
  · show ∀ i ∈ [0, 1, 2], _
    refine zA (zK 0 0 .u64 5 40 none _ _ rfl rfl (fun _ _ _ _ => rfl) rfl hLo rfl rfl rfl rfl (by rfl) (fun b G w hb ho => exec_box rfl (zD rfl (HS0.get 0 rfl)) (by kernel_rfl))) ?_
    refine zA (zK 1 1 .u64 5 40 none _ _ rfl rfl (fun _ _ _ _ => rfl) rfl hLo rfl rfl rfl rfl (by rfl) (fun b G w _ _ => by kernel_rfl)) ?_
    refine zA (zC 2 _ rfl rfl hLo rfl rfl (fun _ _ _ _ => rfl) (fun b G w hb ho => zF (.inr rfl) (rfl))) ?_
    exact zE
  clear hLo
  intro G a1 w1 hS hH
  have HS1 : Sl a1 31 [(1, .pointer (some ⟨(G 0), 0, none⟩)), (2, .pointer (some ⟨(G 1), 0, none⟩))] := hS
  have HH1 : Held w w1 [⟨(G 0), .u64, 5, f, 40⟩, ⟨(G 1), .u64, 5, fun _ => 0, 40⟩] := hH
  clear hS hH HS0 HH0
  generalize G 0 = g1_0 at HS1 HH1
  generalize G 1 = g1_1 at HS1 HH1
  refine then_ ?_
  refine wp_seq ?_
  have hLo : LOk [(0, 5, .val (.agg (FR .u64 5 (f)))), (1, 6, .val (.agg (FR .u8 32 (exB 252 2)))), (2, 7, .val (.agg (FR .u64 5 (X)))), (3, 4, .ptr 3 0)] := lok rfl rfl
  refine yK (wE := w) (sz := 31) (n := 5) (B := [0, 0, 3, 0, 15]) [0, 1, 2, 3, 4] [(1, .val (.pointer (some ⟨g1_0, 0, none⟩))), (2, .val (.pointer (some ⟨g1_1, 0, none⟩))), (4, .ptr 3 0)] _ [⟨g1_0, none, none, .u64, 5, f, f, 40⟩, ⟨g1_1, none, none, .u64, 5, fun _ => 0, fun _ => 0, 40⟩, ⟨0, some 3, some 4, .u64, 5, fun _ => 0, X, 40⟩] (by rfl) rfl tabrtE_1 bitsrtE_1 (by kernel_rfl) (by kernel_rfl) HH1 rfl rfl hLo rfl HS1 (slS 0 rfl rfl (slS 1 rfl rfl (slL 3 (d := 3) rfl (trivial)))) ?_ ?_
  · show ∀ i ∈ [0, 1, 2, 3, 4], _
    refine zA (zG 0 0 _ rfl rfl rfl rfl (fun _ _ _ _ => rfl) hLo rfl rfl rfl (by rfl) Tryd.underlying40 zO rfl (fun b G hb ho => zD rfl (HS1.get 0 rfl))) ?_
    refine zA (zH 1 _ #[.int .i64 252, .int .u8 2] rfl rfl rfl (fun _ _ _ _ => rfl) hLo rfl rfl Tryd.func69 rfl rfl (fun b G hb ho => zU (rfl) (rfl)) (fun w hw => exponent_calls 252 2 w (by omega) (by omega))) ?_
    refine zA (zH 2 _ #[.agg (FR .u64 5 (f)), .agg (FR .u8 32 (exB 252 2))] rfl rfl rfl (fun _ _ _ _ => rfl) hLo rfl rfl Tryd.func68 rfl rfl (fun b G hb ho => zU (zB hLo 0 rfl HS1.1 rfl (hb 0 (by rfl))) (zB hLo 1 rfl HS1.1 rfl (hb 1 (by rfl)))) (fun w hw => pow_x0 hX w hl)) ?_
    refine zA (zK 3 2 .u64 5 40 (some 4) _ _ rfl rfl (fun _ _ _ _ => rfl) rfl hLo rfl rfl rfl rfl (by rfl) (fun b G w _ _ => by kernel_rfl)) ?_
    refine zA (zI 2 _ rfl rfl rfl rfl rfl (fun _ _ _ _ => rfl) rfl rfl rfl (by rfl) zO (fun b G hb ho => zB hLo 3 rfl HS1.1 rfl (hb 3 (by rfl))) (fun b G hb ho => zB hLo 2 rfl HS1.1 rfl (hb 2 (by rfl)))) ?_
    exact zE
  clear hLo
  intro G a2 w2 hS hH
  have HS2 : Sl a2 31 [(1, .pointer (some ⟨g1_0, 0, none⟩)), (2, .pointer (some ⟨g1_1, 0, none⟩)), (4, .pointer (some ⟨(G 3), 0, none⟩))] := hS
  have HH2 : Held w w2 [⟨g1_0, .u64, 5, f, 40⟩, ⟨g1_1, .u64, 5, fun _ => 0, 40⟩, ⟨(G 3), .u64, 5, X, 40⟩] := hH
  clear hS hH HS1 HH1
  generalize G 3 = g2_3 at HS2 HH2
  refine then_ ?_
  refine wp_seq ?_
  refine wp_seq ?_
  have hLo : LOk [(0, 8, .val (.agg (FR .u64 5 (X)))), (1, 9, .val (.agg (FR .u64 5 (X)))), (2, 10, .val (.agg (FR .u64 5 (mulE X X)))), (3, 11, .val (.agg (FR .u64 5 (f)))), (4, 12, .val (.bool r0)), (5, 13, .val (.bool (!r0)))] := lok rfl rfl
  refine yK (wE := w) (sz := 31) (n := 6) (B := [0, 0, 3, 0, 15, 31]) [0, 1, 2, 3, 4, 5] [(1, .val (.pointer (some ⟨g1_0, 0, none⟩))), (2, .val (.pointer (some ⟨g1_1, 0, none⟩))), (4, .val (.pointer (some ⟨g2_3, 0, none⟩))), (13, .val (.bool (!r0)))] _ [⟨g1_0, none, none, .u64, 5, f, f, 40⟩, ⟨g1_1, none, none, .u64, 5, fun _ => 0, fun _ => 0, 40⟩, ⟨g2_3, none, none, .u64, 5, X, X, 40⟩] (by rfl) rfl tabrtE_2 bitsrtE_2 (by kernel_rfl) (by kernel_rfl) HH2 rfl rfl hLo rfl HS2 (slS 0 rfl rfl (slS 1 rfl rfl (slS 2 rfl rfl (slL 5 (d := 5) rfl (trivial))))) ?_ ?_
  · show ∀ i ∈ [0, 1, 2, 3, 4, 5], _
    refine zA (zG 0 2 _ rfl rfl rfl rfl (fun _ _ _ _ => rfl) hLo rfl rfl rfl (by rfl) Tryd.underlying40 zO rfl (fun b G hb ho => zD rfl (HS2.get 2 rfl))) ?_
    refine zA (zG 1 2 _ rfl rfl rfl rfl (fun _ _ _ _ => rfl) hLo rfl rfl rfl (by rfl) Tryd.underlying40 zO rfl (fun b G hb ho => zD rfl (HS2.get 2 rfl))) ?_
    refine zA (zH 2 _ #[.agg (FR .u64 5 (X)), .agg (FR .u64 5 (X))] rfl rfl rfl (fun _ _ _ _ => rfl) hLo rfl rfl Tryd.func39 rfl rfl (fun b G hb ho => zU (zB hLo 0 rfl HS2.1 rfl (hb 0 (by rfl))) (zB hLo 1 rfl HS2.1 rfl (hb 1 (by rfl)))) (fun w hw => zS _ _ w hXl hXl)) ?_
    refine zA (zG 3 0 _ rfl rfl rfl rfl (fun _ _ _ _ => rfl) hLo rfl rfl rfl (by rfl) Tryd.underlying40 zO rfl (fun b G hb ho => zD rfl (HS2.get 0 rfl))) ?_
    refine zA (zH 4 _ #[.agg (FR .u64 5 (mulE X X)), .agg (FR .u64 5 (f))] rfl rfl rfl (fun _ _ _ _ => rfl) hLo rfl rfl Tryd.func53 rfl rfl (fun b G hb ho => zU (zB hLo 2 rfl HS2.1 rfl (hb 2 (by rfl))) (zB hLo 3 rfl HS2.1 rfl (hb 3 (by rfl)))) (fun w hw => isE_bool (hXf.mul hXf) hf hr0 w)) ?_
    refine zA (zC 5 _ rfl rfl hLo rfl rfl (fun _ _ _ _ => rfl) (fun b G w hb ho => exec_un rfl (zB hLo 4 rfl HS2.1 rfl (hb 4 (by rfl))) (by rfl))) ?_
    exact zE
  clear hLo
  intro G a3 w3 hS hH
  have HS3 : Sl a3 31 [(1, .pointer (some ⟨g1_0, 0, none⟩)), (2, .pointer (some ⟨g1_1, 0, none⟩)), (4, .pointer (some ⟨g2_3, 0, none⟩)), (13, .bool (!r0))] := hS
  have HH3 : Held w w3 [⟨g1_0, .u64, 5, f, 40⟩, ⟨g1_1, .u64, 5, fun _ => 0, 40⟩, ⟨g2_3, .u64, 5, X, 40⟩] := hH
  clear hS hH HS2 HH2
  refine then_ ?_
  cases r0
  · skip
    refine wp_cond_true (HS3.get 3 rfl) ?_
    have hLo : LOk [(0, 14, .val (.agg (FR .u64 5 (X)))), (1, 15, .val (.agg (FR .u64 5 (smL 2)))), (2, 16, .val (.agg (FR .u8 32 (exB 253 5)))), (3, 17, .val (.agg (FR .u64 5 (iE)))), (4, 18, .val (.agg (FR .u64 5 (mulE X iE))))] := lok rfl rfl
    refine yK (wE := w) (sz := 31) (n := 6) (B := [0, 0, 2, 6, 15, 31]) [0, 1, 2, 3, 4, 5] [(1, .val (.pointer (some ⟨g1_0, 0, none⟩))), (2, .val (.pointer (some ⟨g1_1, 0, none⟩))), (4, .val (.pointer (some ⟨g2_3, 0, none⟩)))] _ [⟨g1_0, none, none, .u64, 5, f, f, 40⟩, ⟨g1_1, none, none, .u64, 5, fun _ => 0, fun _ => 0, 40⟩, ⟨g2_3, none, some 5, .u64, 5, X, mulE X iE, 40⟩] (by rfl) rfl tabrtE_3 bitsrtE_3 (by kernel_rfl) (by kernel_rfl) HH3 rfl rfl hLo rfl HS3 (slS 0 rfl rfl (slS 1 rfl rfl (slS 2 rfl rfl (trivial)))) ?_ ?_
    · show ∀ i ∈ [0, 1, 2, 3, 4, 5], _
      refine zA (zG 0 2 _ rfl rfl rfl rfl (fun _ _ _ _ => rfl) hLo rfl rfl rfl (by rfl) Tryd.underlying40 zO rfl (fun b G hb ho => zD rfl (HS3.get 2 rfl))) ?_
      refine zA (zH 1 _ #[.int .u32 2] rfl rfl rfl (fun _ _ _ _ => rfl) hLo rfl rfl Tryd.func49 rfl rfl (fun b G hb ho => args1 (rfl)) (fun w hw => Fd.small_elem_calls 2 w (by omega))) ?_
      refine zA (zH 2 _ #[.int .i64 253, .int .u8 5] rfl rfl rfl (fun _ _ _ _ => rfl) hLo rfl rfl Tryd.func69 rfl rfl (fun b G hb ho => zU (rfl) (rfl)) (fun w hw => exponent_calls 253 5 w (by omega) (by omega))) ?_
      refine zA (zH 3 _ #[.agg (FR .u64 5 (smL 2)), .agg (FR .u8 32 (exB 253 5))] rfl rfl rfl (fun _ _ _ _ => rfl) hLo rfl rfl Tryd.func68 rfl rfl (fun b G hb ho => zU (zB hLo 1 rfl HS3.1 rfl (hb 1 (by rfl))) (zB hLo 2 rfl HS3.1 rfl (hb 2 (by rfl)))) (fun w hw => pow_i w)) ?_
      refine zA (zH 4 _ #[.agg (FR .u64 5 (X)), .agg (FR .u64 5 (iE))] rfl rfl rfl (fun _ _ _ _ => rfl) hLo rfl rfl Tryd.func39 rfl rfl (fun b G hb ho => zU (zB hLo 0 rfl HS3.1 rfl (hb 0 (by rfl))) (zB hLo 3 rfl HS3.1 rfl (hb 3 (by rfl)))) (fun w hw => zS _ _ w hXl iE_Fe.1)) ?_
      refine zA (zI 2 _ rfl rfl rfl rfl rfl (fun _ _ _ _ => rfl) rfl rfl rfl (by rfl) zO (fun b G hb ho => zD rfl (HS3.get 2 rfl)) (fun b G hb ho => zB hLo 4 rfl HS3.1 rfl (hb 4 (by rfl)))) ?_
      exact zE
    clear hLo
    intro G a4 w4 hS hH
    have HS4 : Sl a4 31 [(1, .pointer (some ⟨g1_0, 0, none⟩)), (2, .pointer (some ⟨g1_1, 0, none⟩)), (4, .pointer (some ⟨g2_3, 0, none⟩))] := hS
    have HH4 : Held w w4 [⟨g1_0, .u64, 5, f, 40⟩, ⟨g1_1, .u64, 5, fun _ => 0, 40⟩, ⟨g2_3, .u64, 5, mulE X iE, 40⟩] := hH
    clear hS hH HS3 HH3
    refine then_ ?_
    rw [show mulE X iE = Y by rw [← hX, ← hY]; exact (x1E_n hr0).symm] at HH4
    refine wp_seq ?_
    refine wp_seq ?_
    have hLo : LOk [(0, 19, .val (.agg (FR .u64 5 (Y)))), (1, 20, .val (.agg (FR .u64 5 (Y)))), (2, 21, .val (.agg (FR .u64 5 (mulE Y Y)))), (3, 22, .val (.agg (FR .u64 5 (f)))), (4, 23, .val (.bool r1)), (5, 24, .val (.bool (!r1)))] := lok rfl rfl
    refine yK (wE := w) (sz := 31) (n := 6) (B := [0, 0, 3, 0, 15, 31]) [0, 1, 2, 3, 4, 5] [(1, .val (.pointer (some ⟨g1_0, 0, none⟩))), (2, .val (.pointer (some ⟨g1_1, 0, none⟩))), (4, .val (.pointer (some ⟨g2_3, 0, none⟩))), (24, .val (.bool (!r1)))] _ [⟨g1_0, none, none, .u64, 5, f, f, 40⟩, ⟨g1_1, none, none, .u64, 5, fun _ => 0, fun _ => 0, 40⟩, ⟨g2_3, none, none, .u64, 5, Y, Y, 40⟩] (by rfl) rfl tabrtE_4 bitsrtE_4 (by kernel_rfl) (by kernel_rfl) HH4 rfl rfl hLo rfl HS4 (slS 0 rfl rfl (slS 1 rfl rfl (slS 2 rfl rfl (slL 5 (d := 5) rfl (trivial))))) ?_ ?_
    · show ∀ i ∈ [0, 1, 2, 3, 4, 5], _
      refine zA (zG 0 2 _ rfl rfl rfl rfl (fun _ _ _ _ => rfl) hLo rfl rfl rfl (by rfl) Tryd.underlying40 zO rfl (fun b G hb ho => zD rfl (HS4.get 2 rfl))) ?_
      refine zA (zG 1 2 _ rfl rfl rfl rfl (fun _ _ _ _ => rfl) hLo rfl rfl rfl (by rfl) Tryd.underlying40 zO rfl (fun b G hb ho => zD rfl (HS4.get 2 rfl))) ?_
      refine zA (zH 2 _ #[.agg (FR .u64 5 (Y)), .agg (FR .u64 5 (Y))] rfl rfl rfl (fun _ _ _ _ => rfl) hLo rfl rfl Tryd.func39 rfl rfl (fun b G hb ho => zU (zB hLo 0 rfl HS4.1 rfl (hb 0 (by rfl))) (zB hLo 1 rfl HS4.1 rfl (hb 1 (by rfl)))) (fun w hw => zS _ _ w hYl hYl)) ?_
      refine zA (zG 3 0 _ rfl rfl rfl rfl (fun _ _ _ _ => rfl) hLo rfl rfl rfl (by rfl) Tryd.underlying40 zO rfl (fun b G hb ho => zD rfl (HS4.get 0 rfl))) ?_
      refine zA (zH 4 _ #[.agg (FR .u64 5 (mulE Y Y)), .agg (FR .u64 5 (f))] rfl rfl rfl (fun _ _ _ _ => rfl) hLo rfl rfl Tryd.func53 rfl rfl (fun b G hb ho => zU (zB hLo 2 rfl HS4.1 rfl (hb 2 (by rfl))) (zB hLo 3 rfl HS4.1 rfl (hb 3 (by rfl)))) (fun w hw => isE_bool (hYf.mul hYf) hf hr1 w)) ?_
      refine zA (zC 5 _ rfl rfl hLo rfl rfl (fun _ _ _ _ => rfl) (fun b G w hb ho => exec_un rfl (zB hLo 4 rfl HS4.1 rfl (hb 4 (by rfl))) (by rfl))) ?_
      exact zE
    clear hLo
    intro G a5 w5 hS hH
    have HS5 : Sl a5 31 [(1, .pointer (some ⟨g1_0, 0, none⟩)), (2, .pointer (some ⟨g1_1, 0, none⟩)), (4, .pointer (some ⟨g2_3, 0, none⟩)), (24, .bool (!r1))] := hS
    have HH5 : Held w w5 [⟨g1_0, .u64, 5, f, 40⟩, ⟨g1_1, .u64, 5, fun _ => 0, 40⟩, ⟨g2_3, .u64, 5, Y, 40⟩] := hH
    clear hS hH HS4 HH4
    refine then_ ?_
    cases r1
    · skip
      refine wp_cond_true (HS5.get 3 rfl) ?_
      refine wp_seq ?_
      have hLo : LOk [(0, 25, .val (.agg (FR .u64 5 (fun _ => 0)))), (2, 3, .val (.bool false))] := lok rfl rfl
      refine zJ (wE := w) (sz := 31) (n := 3) [0, 1, 3] [(2, .val (.pointer (some ⟨g1_1, 0, none⟩))), (3, .val (.bool false))] _ [⟨g1_0, none, none, .u64, 5, f, f, 40⟩, ⟨g1_1, none, some 1, .u64, 5, fun _ => 0, fun _ => 0, 40⟩, ⟨g2_3, none, none, .u64, 5, Y, Y, 40⟩] rfl (by rfl) HH5 rfl rfl hLo rfl HS5 (slS 1 rfl rfl (slL 1 (d := 2) rfl (trivial))) ?_ ?_
      · show ∀ i ∈ [0, 1, 2], _
        refine zA (zC 0 _ rfl rfl hLo rfl rfl (fun _ _ _ _ => rfl) (fun b G w hb ho => zZ rfl (parts0 ) (by kernel_rfl))) ?_
        refine zA (zI 1 _ rfl rfl rfl rfl rfl (fun _ _ _ _ => rfl) rfl rfl rfl (by rfl) zO (fun b G hb ho => zD rfl (HS5.get 1 rfl)) (fun b G hb ho => zB hLo 0 rfl HS5.1 rfl (hb 0 (by rfl)))) ?_
        refine zA (zC 1 _ rfl rfl hLo rfl rfl (fun _ _ _ _ => rfl) (fun b G w hb ho => zF (.inr rfl) (rfl))) ?_
        exact zE
      clear hLo
      intro G a6 w6 hS hH
      have HS6 : Sl a6 31 [(2, .pointer (some ⟨g1_1, 0, none⟩)), (3, .bool false)] := hS
      have HH6 : Held w w6 [⟨g1_0, .u64, 5, f, 40⟩, ⟨g1_1, .u64, 5, fun _ => 0, 40⟩, ⟨g2_3, .u64, 5, Y, 40⟩] := hH
      clear hS hH HS5 HH5
      refine then_ ?_
      refine wp_ret ?_
      repeat refine yC ?_
      exact b_row2 rfl HS6.2.1 (HS6.get 0 rfl) (HS6.get 1 rfl) (HH6.row 1 rfl) Tryd.underlying40 rfl zO ⟨by rw [rtE_no hr1], HH6.1⟩
    · skip
      refine wp_cond_false (HS5.get 3 rfl) ?_
      refine wp_skip ?_
      refine then_ ?_
      refine wp_seq ?_
      refine wp_seq ?_
      have hLo : LOk [(0, 26, .val (.agg (FR .u64 5 (Y)))), (1, 27, .val (.bool r2))] := lok rfl rfl
      refine zJ (wE := w) (sz := 31) (n := 2) [0, 1] [(2, .val (.pointer (some ⟨g1_1, 0, none⟩))), (4, .val (.pointer (some ⟨g2_3, 0, none⟩))), (27, .val (.bool r2))] _ [⟨g1_0, none, none, .u64, 5, f, f, 40⟩, ⟨g1_1, none, none, .u64, 5, fun _ => 0, fun _ => 0, 40⟩, ⟨g2_3, none, none, .u64, 5, Y, Y, 40⟩] rfl (by rfl) HH5 rfl rfl hLo rfl HS5 (slS 1 rfl rfl (slS 2 rfl rfl (slL 1 (d := 1) rfl (trivial)))) ?_ ?_
      · show ∀ i ∈ [0, 1], _
        refine zA (zG 0 2 _ rfl rfl rfl rfl (fun _ _ _ _ => rfl) hLo rfl rfl rfl (by rfl) Tryd.underlying40 zO rfl (fun b G hb ho => zD rfl (HS5.get 2 rfl))) ?_
        refine zA (zH 1 _ #[.agg (FR .u64 5 (Y))] rfl rfl rfl (fun _ _ _ _ => rfl) hLo rfl rfl Tryd.func41 rfl rfl (fun b G hb ho => args1 (zB hLo 0 rfl HS5.1 rfl (hb 0 (by rfl)))) (fun w hw => odd_bool hYf r2 hr2 w)) ?_
        exact zE
      clear hLo
      intro G a7 w7 hS hH
      have HS7 : Sl a7 31 [(2, .pointer (some ⟨g1_1, 0, none⟩)), (4, .pointer (some ⟨g2_3, 0, none⟩)), (27, .bool r2)] := hS
      have HH7 : Held w w7 [⟨g1_0, .u64, 5, f, 40⟩, ⟨g1_1, .u64, 5, fun _ => 0, 40⟩, ⟨g2_3, .u64, 5, Y, 40⟩] := hH
      clear hS hH HS5 HH5
      refine then_ ?_
      cases r2
      · skip
        refine wp_cond_false (HS7.get 2 rfl) ?_
        refine wp_skip ?_
        refine then_ ?_
        refine wp_seq ?_
        have hLo : LOk [(0, 30, .val (.agg (FR .u64 5 (Y)))), (2, 3, .val (.bool true))] := lok rfl rfl
        refine zJ (wE := w) (sz := 31) (n := 3) [0, 1, 3] [(2, .val (.pointer (some ⟨g1_1, 0, none⟩))), (3, .val (.bool true))] _ [⟨g1_0, none, none, .u64, 5, f, f, 40⟩, ⟨g1_1, none, some 1, .u64, 5, fun _ => 0, Y, 40⟩, ⟨g2_3, none, none, .u64, 5, Y, Y, 40⟩] rfl (by rfl) HH7 rfl rfl hLo rfl HS7 (slS 0 rfl rfl (slL 1 (d := 2) rfl (trivial))) ?_ ?_
        · show ∀ i ∈ [0, 1, 2], _
          refine zA (zG 0 2 _ rfl rfl rfl rfl (fun _ _ _ _ => rfl) hLo rfl rfl rfl (by rfl) Tryd.underlying40 zO rfl (fun b G hb ho => zD rfl (HS7.get 1 rfl))) ?_
          refine zA (zI 1 _ rfl rfl rfl rfl rfl (fun _ _ _ _ => rfl) rfl rfl rfl (by rfl) zO (fun b G hb ho => zD rfl (HS7.get 0 rfl)) (fun b G hb ho => zB hLo 0 rfl HS7.1 rfl (hb 0 (by rfl)))) ?_
          refine zA (zC 1 _ rfl rfl hLo rfl rfl (fun _ _ _ _ => rfl) (fun b G w hb ho => zF (.inr rfl) (rfl))) ?_
          exact zE
        clear hLo
        intro G a8 w8 hS hH
        have HS8 : Sl a8 31 [(2, .pointer (some ⟨g1_1, 0, none⟩)), (3, .bool true)] := hS
        have HH8 : Held w w8 [⟨g1_0, .u64, 5, f, 40⟩, ⟨g1_1, .u64, 5, Y, 40⟩, ⟨g2_3, .u64, 5, Y, 40⟩] := hH
        clear hS hH HS7 HH7
        refine then_ ?_
        refine wp_ret ?_
        repeat refine yC ?_
        exact b_row2 rfl HS8.2.1 (HS8.get 0 rfl) (HS8.get 1 rfl) (HH8.row 1 rfl) Tryd.underlying40 rfl zO ⟨by rw [rtE_n hr1 hr2, hY], HH8.1⟩
      · skip
        refine wp_cond_true (HS7.get 2 rfl) ?_
        have hLo : LOk [(0, 28, .val (.agg (FR .u64 5 (Y)))), (1, 29, .val (.agg (FR .u64 5 (negE Y))))] := lok rfl rfl
        refine zJ (wE := w) (sz := 31) (n := 3) [0, 1, 3] [(2, .val (.pointer (some ⟨g1_1, 0, none⟩))), (4, .val (.pointer (some ⟨g2_3, 0, none⟩)))] _ [⟨g1_0, none, none, .u64, 5, f, f, 40⟩, ⟨g1_1, none, none, .u64, 5, fun _ => 0, fun _ => 0, 40⟩, ⟨g2_3, none, some 2, .u64, 5, Y, negE Y, 40⟩] rfl (by rfl) HH7 rfl rfl hLo rfl HS7 (slS 0 rfl rfl (slS 1 rfl rfl (trivial))) ?_ ?_
        · show ∀ i ∈ [0, 1, 2], _
          refine zA (zG 0 2 _ rfl rfl rfl rfl (fun _ _ _ _ => rfl) hLo rfl rfl rfl (by rfl) Tryd.underlying40 zO rfl (fun b G hb ho => zD rfl (HS7.get 1 rfl))) ?_
          refine zA (zH 1 _ #[.agg (FR .u64 5 (Y))] rfl rfl rfl (fun _ _ _ _ => rfl) hLo rfl rfl Tryd.func54 rfl rfl (fun b G hb ho => args1 (zB hLo 0 rfl HS7.1 rfl (hb 0 (by rfl)))) (fun w hw => negE_c _ w hYl)) ?_
          refine zA (zI 2 _ rfl rfl rfl rfl rfl (fun _ _ _ _ => rfl) rfl rfl rfl (by rfl) zO (fun b G hb ho => zD rfl (HS7.get 1 rfl)) (fun b G hb ho => zB hLo 1 rfl HS7.1 rfl (hb 1 (by rfl)))) ?_
          exact zE
        clear hLo
        intro G a9 w9 hS hH
        have HS9 : Sl a9 31 [(2, .pointer (some ⟨g1_1, 0, none⟩)), (4, .pointer (some ⟨g2_3, 0, none⟩))] := hS
        have HH9 : Held w w9 [⟨g1_0, .u64, 5, f, 40⟩, ⟨g1_1, .u64, 5, fun _ => 0, 40⟩, ⟨g2_3, .u64, 5, negE Y, 40⟩] := hH
        clear hS hH HS7 HH7
        refine then_ ?_
        refine wp_seq ?_
        have hLo : LOk [(0, 30, .val (.agg (FR .u64 5 (negE Y)))), (2, 3, .val (.bool true))] := lok rfl rfl
        refine zJ (wE := w) (sz := 31) (n := 3) [0, 1, 3] [(2, .val (.pointer (some ⟨g1_1, 0, none⟩))), (3, .val (.bool true))] _ [⟨g1_0, none, none, .u64, 5, f, f, 40⟩, ⟨g1_1, none, some 1, .u64, 5, fun _ => 0, negE Y, 40⟩, ⟨g2_3, none, none, .u64, 5, negE Y, negE Y, 40⟩] rfl (by rfl) HH9 rfl rfl hLo rfl HS9 (slS 0 rfl rfl (slL 1 (d := 2) rfl (trivial))) ?_ ?_
        · show ∀ i ∈ [0, 1, 2], _
          refine zA (zG 0 2 _ rfl rfl rfl rfl (fun _ _ _ _ => rfl) hLo rfl rfl rfl (by rfl) Tryd.underlying40 zO rfl (fun b G hb ho => zD rfl (HS9.get 1 rfl))) ?_
          refine zA (zI 1 _ rfl rfl rfl rfl rfl (fun _ _ _ _ => rfl) rfl rfl rfl (by rfl) zO (fun b G hb ho => zD rfl (HS9.get 0 rfl)) (fun b G hb ho => zB hLo 0 rfl HS9.1 rfl (hb 0 (by rfl)))) ?_
          refine zA (zC 1 _ rfl rfl hLo rfl rfl (fun _ _ _ _ => rfl) (fun b G w hb ho => zF (.inr rfl) (rfl))) ?_
          exact zE
        clear hLo
        intro G a10 w10 hS hH
        have HS10 : Sl a10 31 [(2, .pointer (some ⟨g1_1, 0, none⟩)), (3, .bool true)] := hS
        have HH10 : Held w w10 [⟨g1_0, .u64, 5, f, 40⟩, ⟨g1_1, .u64, 5, negE Y, 40⟩, ⟨g2_3, .u64, 5, negE Y, 40⟩] := hH
        clear hS hH HS9 HH9
        refine then_ ?_
        refine wp_ret ?_
        repeat refine yC ?_
        exact b_row2 rfl HS10.2.1 (HS10.get 0 rfl) (HS10.get 1 rfl) (HH10.row 1 rfl) Tryd.underlying40 rfl zO ⟨by rw [rtE_y hr1 hr2, hY], HH10.1⟩
  · skip
    refine wp_cond_false (HS3.get 3 rfl) ?_
    refine wp_skip ?_
    refine then_ ?_
    rw [show X = Y by rw [← hX, ← hY]; exact (x1E_y hr0).symm] at HH3
    refine wp_seq ?_
    refine wp_seq ?_
    have hLo : LOk [(0, 19, .val (.agg (FR .u64 5 (Y)))), (1, 20, .val (.agg (FR .u64 5 (Y)))), (2, 21, .val (.agg (FR .u64 5 (mulE Y Y)))), (3, 22, .val (.agg (FR .u64 5 (f)))), (4, 23, .val (.bool r1)), (5, 24, .val (.bool (!r1)))] := lok rfl rfl
    refine yK (wE := w) (sz := 31) (n := 6) (B := [0, 0, 3, 0, 15, 31]) [0, 1, 2, 3, 4, 5] [(1, .val (.pointer (some ⟨g1_0, 0, none⟩))), (2, .val (.pointer (some ⟨g1_1, 0, none⟩))), (4, .val (.pointer (some ⟨g2_3, 0, none⟩))), (24, .val (.bool (!r1)))] _ [⟨g1_0, none, none, .u64, 5, f, f, 40⟩, ⟨g1_1, none, none, .u64, 5, fun _ => 0, fun _ => 0, 40⟩, ⟨g2_3, none, none, .u64, 5, Y, Y, 40⟩] (by rfl) rfl tabrtE_4 bitsrtE_4 (by kernel_rfl) (by kernel_rfl) HH3 rfl rfl hLo rfl HS3 (slS 0 rfl rfl (slS 1 rfl rfl (slS 2 rfl rfl (slL 5 (d := 5) rfl (trivial))))) ?_ ?_
    · show ∀ i ∈ [0, 1, 2, 3, 4, 5], _
      refine zA (zG 0 2 _ rfl rfl rfl rfl (fun _ _ _ _ => rfl) hLo rfl rfl rfl (by rfl) Tryd.underlying40 zO rfl (fun b G hb ho => zD rfl (HS3.get 2 rfl))) ?_
      refine zA (zG 1 2 _ rfl rfl rfl rfl (fun _ _ _ _ => rfl) hLo rfl rfl rfl (by rfl) Tryd.underlying40 zO rfl (fun b G hb ho => zD rfl (HS3.get 2 rfl))) ?_
      refine zA (zH 2 _ #[.agg (FR .u64 5 (Y)), .agg (FR .u64 5 (Y))] rfl rfl rfl (fun _ _ _ _ => rfl) hLo rfl rfl Tryd.func39 rfl rfl (fun b G hb ho => zU (zB hLo 0 rfl HS3.1 rfl (hb 0 (by rfl))) (zB hLo 1 rfl HS3.1 rfl (hb 1 (by rfl)))) (fun w hw => zS _ _ w hYl hYl)) ?_
      refine zA (zG 3 0 _ rfl rfl rfl rfl (fun _ _ _ _ => rfl) hLo rfl rfl rfl (by rfl) Tryd.underlying40 zO rfl (fun b G hb ho => zD rfl (HS3.get 0 rfl))) ?_
      refine zA (zH 4 _ #[.agg (FR .u64 5 (mulE Y Y)), .agg (FR .u64 5 (f))] rfl rfl rfl (fun _ _ _ _ => rfl) hLo rfl rfl Tryd.func53 rfl rfl (fun b G hb ho => zU (zB hLo 2 rfl HS3.1 rfl (hb 2 (by rfl))) (zB hLo 3 rfl HS3.1 rfl (hb 3 (by rfl)))) (fun w hw => isE_bool (hYf.mul hYf) hf hr1 w)) ?_
      refine zA (zC 5 _ rfl rfl hLo rfl rfl (fun _ _ _ _ => rfl) (fun b G w hb ho => exec_un rfl (zB hLo 4 rfl HS3.1 rfl (hb 4 (by rfl))) (by rfl))) ?_
      exact zE
    clear hLo
    intro G a11 w11 hS hH
    have HS11 : Sl a11 31 [(1, .pointer (some ⟨g1_0, 0, none⟩)), (2, .pointer (some ⟨g1_1, 0, none⟩)), (4, .pointer (some ⟨g2_3, 0, none⟩)), (24, .bool (!r1))] := hS
    have HH11 : Held w w11 [⟨g1_0, .u64, 5, f, 40⟩, ⟨g1_1, .u64, 5, fun _ => 0, 40⟩, ⟨g2_3, .u64, 5, Y, 40⟩] := hH
    clear hS hH HS3 HH3
    refine then_ ?_
    cases r1
    · skip
      refine wp_cond_true (HS11.get 3 rfl) ?_
      refine wp_seq ?_
      have hLo : LOk [(0, 25, .val (.agg (FR .u64 5 (fun _ => 0)))), (2, 3, .val (.bool false))] := lok rfl rfl
      refine zJ (wE := w) (sz := 31) (n := 3) [0, 1, 3] [(2, .val (.pointer (some ⟨g1_1, 0, none⟩))), (3, .val (.bool false))] _ [⟨g1_0, none, none, .u64, 5, f, f, 40⟩, ⟨g1_1, none, some 1, .u64, 5, fun _ => 0, fun _ => 0, 40⟩, ⟨g2_3, none, none, .u64, 5, Y, Y, 40⟩] rfl (by rfl) HH11 rfl rfl hLo rfl HS11 (slS 1 rfl rfl (slL 1 (d := 2) rfl (trivial))) ?_ ?_
      · show ∀ i ∈ [0, 1, 2], _
        refine zA (zC 0 _ rfl rfl hLo rfl rfl (fun _ _ _ _ => rfl) (fun b G w hb ho => zZ rfl (parts0 ) (by kernel_rfl))) ?_
        refine zA (zI 1 _ rfl rfl rfl rfl rfl (fun _ _ _ _ => rfl) rfl rfl rfl (by rfl) zO (fun b G hb ho => zD rfl (HS11.get 1 rfl)) (fun b G hb ho => zB hLo 0 rfl HS11.1 rfl (hb 0 (by rfl)))) ?_
        refine zA (zC 1 _ rfl rfl hLo rfl rfl (fun _ _ _ _ => rfl) (fun b G w hb ho => zF (.inr rfl) (rfl))) ?_
        exact zE
      clear hLo
      intro G a12 w12 hS hH
      have HS12 : Sl a12 31 [(2, .pointer (some ⟨g1_1, 0, none⟩)), (3, .bool false)] := hS
      have HH12 : Held w w12 [⟨g1_0, .u64, 5, f, 40⟩, ⟨g1_1, .u64, 5, fun _ => 0, 40⟩, ⟨g2_3, .u64, 5, Y, 40⟩] := hH
      clear hS hH HS11 HH11
      refine then_ ?_
      refine wp_ret ?_
      repeat refine yC ?_
      exact b_row2 rfl HS12.2.1 (HS12.get 0 rfl) (HS12.get 1 rfl) (HH12.row 1 rfl) Tryd.underlying40 rfl zO ⟨by rw [rtE_no hr1], HH12.1⟩
    · skip
      refine wp_cond_false (HS11.get 3 rfl) ?_
      refine wp_skip ?_
      refine then_ ?_
      refine wp_seq ?_
      refine wp_seq ?_
      have hLo : LOk [(0, 26, .val (.agg (FR .u64 5 (Y)))), (1, 27, .val (.bool r2))] := lok rfl rfl
      refine zJ (wE := w) (sz := 31) (n := 2) [0, 1] [(2, .val (.pointer (some ⟨g1_1, 0, none⟩))), (4, .val (.pointer (some ⟨g2_3, 0, none⟩))), (27, .val (.bool r2))] _ [⟨g1_0, none, none, .u64, 5, f, f, 40⟩, ⟨g1_1, none, none, .u64, 5, fun _ => 0, fun _ => 0, 40⟩, ⟨g2_3, none, none, .u64, 5, Y, Y, 40⟩] rfl (by rfl) HH11 rfl rfl hLo rfl HS11 (slS 1 rfl rfl (slS 2 rfl rfl (slL 1 (d := 1) rfl (trivial)))) ?_ ?_
      · show ∀ i ∈ [0, 1], _
        refine zA (zG 0 2 _ rfl rfl rfl rfl (fun _ _ _ _ => rfl) hLo rfl rfl rfl (by rfl) Tryd.underlying40 zO rfl (fun b G hb ho => zD rfl (HS11.get 2 rfl))) ?_
        refine zA (zH 1 _ #[.agg (FR .u64 5 (Y))] rfl rfl rfl (fun _ _ _ _ => rfl) hLo rfl rfl Tryd.func41 rfl rfl (fun b G hb ho => args1 (zB hLo 0 rfl HS11.1 rfl (hb 0 (by rfl)))) (fun w hw => odd_bool hYf r2 hr2 w)) ?_
        exact zE
      clear hLo
      intro G a13 w13 hS hH
      have HS13 : Sl a13 31 [(2, .pointer (some ⟨g1_1, 0, none⟩)), (4, .pointer (some ⟨g2_3, 0, none⟩)), (27, .bool r2)] := hS
      have HH13 : Held w w13 [⟨g1_0, .u64, 5, f, 40⟩, ⟨g1_1, .u64, 5, fun _ => 0, 40⟩, ⟨g2_3, .u64, 5, Y, 40⟩] := hH
      clear hS hH HS11 HH11
      refine then_ ?_
      cases r2
      · skip
        refine wp_cond_false (HS13.get 2 rfl) ?_
        refine wp_skip ?_
        refine then_ ?_
        refine wp_seq ?_
        have hLo : LOk [(0, 30, .val (.agg (FR .u64 5 (Y)))), (2, 3, .val (.bool true))] := lok rfl rfl
        refine zJ (wE := w) (sz := 31) (n := 3) [0, 1, 3] [(2, .val (.pointer (some ⟨g1_1, 0, none⟩))), (3, .val (.bool true))] _ [⟨g1_0, none, none, .u64, 5, f, f, 40⟩, ⟨g1_1, none, some 1, .u64, 5, fun _ => 0, Y, 40⟩, ⟨g2_3, none, none, .u64, 5, Y, Y, 40⟩] rfl (by rfl) HH13 rfl rfl hLo rfl HS13 (slS 0 rfl rfl (slL 1 (d := 2) rfl (trivial))) ?_ ?_
        · show ∀ i ∈ [0, 1, 2], _
          refine zA (zG 0 2 _ rfl rfl rfl rfl (fun _ _ _ _ => rfl) hLo rfl rfl rfl (by rfl) Tryd.underlying40 zO rfl (fun b G hb ho => zD rfl (HS13.get 1 rfl))) ?_
          refine zA (zI 1 _ rfl rfl rfl rfl rfl (fun _ _ _ _ => rfl) rfl rfl rfl (by rfl) zO (fun b G hb ho => zD rfl (HS13.get 0 rfl)) (fun b G hb ho => zB hLo 0 rfl HS13.1 rfl (hb 0 (by rfl)))) ?_
          refine zA (zC 1 _ rfl rfl hLo rfl rfl (fun _ _ _ _ => rfl) (fun b G w hb ho => zF (.inr rfl) (rfl))) ?_
          exact zE
        clear hLo
        intro G a14 w14 hS hH
        have HS14 : Sl a14 31 [(2, .pointer (some ⟨g1_1, 0, none⟩)), (3, .bool true)] := hS
        have HH14 : Held w w14 [⟨g1_0, .u64, 5, f, 40⟩, ⟨g1_1, .u64, 5, Y, 40⟩, ⟨g2_3, .u64, 5, Y, 40⟩] := hH
        clear hS hH HS13 HH13
        refine then_ ?_
        refine wp_ret ?_
        repeat refine yC ?_
        exact b_row2 rfl HS14.2.1 (HS14.get 0 rfl) (HS14.get 1 rfl) (HH14.row 1 rfl) Tryd.underlying40 rfl zO ⟨by rw [rtE_n hr1 hr2, hY], HH14.1⟩
      · skip
        refine wp_cond_true (HS13.get 2 rfl) ?_
        have hLo : LOk [(0, 28, .val (.agg (FR .u64 5 (Y)))), (1, 29, .val (.agg (FR .u64 5 (negE Y))))] := lok rfl rfl
        refine zJ (wE := w) (sz := 31) (n := 3) [0, 1, 3] [(2, .val (.pointer (some ⟨g1_1, 0, none⟩))), (4, .val (.pointer (some ⟨g2_3, 0, none⟩)))] _ [⟨g1_0, none, none, .u64, 5, f, f, 40⟩, ⟨g1_1, none, none, .u64, 5, fun _ => 0, fun _ => 0, 40⟩, ⟨g2_3, none, some 2, .u64, 5, Y, negE Y, 40⟩] rfl (by rfl) HH13 rfl rfl hLo rfl HS13 (slS 0 rfl rfl (slS 1 rfl rfl (trivial))) ?_ ?_
        · show ∀ i ∈ [0, 1, 2], _
          refine zA (zG 0 2 _ rfl rfl rfl rfl (fun _ _ _ _ => rfl) hLo rfl rfl rfl (by rfl) Tryd.underlying40 zO rfl (fun b G hb ho => zD rfl (HS13.get 1 rfl))) ?_
          refine zA (zH 1 _ #[.agg (FR .u64 5 (Y))] rfl rfl rfl (fun _ _ _ _ => rfl) hLo rfl rfl Tryd.func54 rfl rfl (fun b G hb ho => args1 (zB hLo 0 rfl HS13.1 rfl (hb 0 (by rfl)))) (fun w hw => negE_c _ w hYl)) ?_
          refine zA (zI 2 _ rfl rfl rfl rfl rfl (fun _ _ _ _ => rfl) rfl rfl rfl (by rfl) zO (fun b G hb ho => zD rfl (HS13.get 1 rfl)) (fun b G hb ho => zB hLo 1 rfl HS13.1 rfl (hb 1 (by rfl)))) ?_
          exact zE
        clear hLo
        intro G a15 w15 hS hH
        have HS15 : Sl a15 31 [(2, .pointer (some ⟨g1_1, 0, none⟩)), (4, .pointer (some ⟨g2_3, 0, none⟩))] := hS
        have HH15 : Held w w15 [⟨g1_0, .u64, 5, f, 40⟩, ⟨g1_1, .u64, 5, fun _ => 0, 40⟩, ⟨g2_3, .u64, 5, negE Y, 40⟩] := hH
        clear hS hH HS13 HH13
        refine then_ ?_
        refine wp_seq ?_
        have hLo : LOk [(0, 30, .val (.agg (FR .u64 5 (negE Y)))), (2, 3, .val (.bool true))] := lok rfl rfl
        refine zJ (wE := w) (sz := 31) (n := 3) [0, 1, 3] [(2, .val (.pointer (some ⟨g1_1, 0, none⟩))), (3, .val (.bool true))] _ [⟨g1_0, none, none, .u64, 5, f, f, 40⟩, ⟨g1_1, none, some 1, .u64, 5, fun _ => 0, negE Y, 40⟩, ⟨g2_3, none, none, .u64, 5, negE Y, negE Y, 40⟩] rfl (by rfl) HH15 rfl rfl hLo rfl HS15 (slS 0 rfl rfl (slL 1 (d := 2) rfl (trivial))) ?_ ?_
        · show ∀ i ∈ [0, 1, 2], _
          refine zA (zG 0 2 _ rfl rfl rfl rfl (fun _ _ _ _ => rfl) hLo rfl rfl rfl (by rfl) Tryd.underlying40 zO rfl (fun b G hb ho => zD rfl (HS15.get 1 rfl))) ?_
          refine zA (zI 1 _ rfl rfl rfl rfl rfl (fun _ _ _ _ => rfl) rfl rfl rfl (by rfl) zO (fun b G hb ho => zD rfl (HS15.get 0 rfl)) (fun b G hb ho => zB hLo 0 rfl HS15.1 rfl (hb 0 (by rfl)))) ?_
          refine zA (zC 1 _ rfl rfl hLo rfl rfl (fun _ _ _ _ => rfl) (fun b G w hb ho => zF (.inr rfl) (rfl))) ?_
          exact zE
        clear hLo
        intro G a16 w16 hS hH
        have HS16 : Sl a16 31 [(2, .pointer (some ⟨g1_1, 0, none⟩)), (3, .bool true)] := hS
        have HH16 : Held w w16 [⟨g1_0, .u64, 5, f, 40⟩, ⟨g1_1, .u64, 5, negE Y, 40⟩, ⟨g2_3, .u64, 5, negE Y, 40⟩] := hH
        clear hS hH HS15 HH15
        refine then_ ?_
        refine wp_ret ?_
        repeat refine yC ?_
        exact b_row2 rfl HS16.2.1 (HS16.get 0 rfl) (HS16.get 1 rfl) (HH16.row 1 rfl) Tryd.underlying40 rfl zO ⟨by rw [rtE_y hr1 hr2, hY], HH16.1⟩
theorem rootR_calls (f : Nat → Int) (n : Int) (w : World) (hf : Re f n) : Calls Tryd.prog 63 #[.agg (FR .i64 16 f)] w fun e w' => e = .returned (.tuple #[.agg (FR .i64 16 (rtR f n)), .bool (rOk iZ n)]) ∧ Below w.heap.size w w' := by
  have hl : Rn f := hf.1
  obtain ⟨X, hX⟩ : ∃ X, x0R f = X := ⟨_, rfl⟩
  have hXf : Re X (x0N n) := by rw [← hX]; exact x0R_Re hf
  have hXl := hXf.1
  obtain ⟨Y, hY⟩ : ∃ Y, x1R f n = Y := ⟨_, rfl⟩
  have hYf : Re Y (x1N iZ n) := by rw [← hY]; exact x1R_Re hf
  have hYl := hYf.1
  obtain ⟨r0, hr0⟩ : ∃ r, sq0 n = r := ⟨_, rfl⟩
  obtain ⟨r1, hr1⟩ : ∃ r, rOk iZ n = r := ⟨_, rfl⟩
  obtain ⟨r2, hr2⟩ : ∃ r, rOdd iZ n = r := ⟨_, rfl⟩
  rw [hr1]
  refine enter_ 34 Tryd.func63 rfl rfl (fun a0 hS => ?_)
  have HS0 : Sl a0 34 [(0, .agg (FR .i64 16 f))] := hS
  have HH0 : Held w w [] := Held.first w
  clear hS
  refine wp_seq ?_
  have hLo : LOk [(0, 1, .ptr 0 0), (1, 2, .ptr 1 0), (2, 3, .val (.bool false))] := lok rfl rfl
  refine zJ (wE := w) (sz := 34) (n := 3) [0, 1, 3] [(1, .ptr 0 0), (2, .ptr 1 0)] _ [⟨0, some 0, none, .i64, 16, f, f, 50⟩, ⟨0, some 1, none, .i64, 16, fun _ => 0, fun _ => 0, 50⟩] rfl (by rfl) HH0 rfl rfl hLo rfl HS0 (slL 0 (d := 0) rfl (slL 1 (d := 1) rfl (trivial))) ?_ ?_
  · show ∀ i ∈ [0, 1, 2], _
    refine zA (zK 0 0 .i64 16 50 none _ _ rfl rfl (fun _ _ _ _ => rfl) rfl hLo rfl rfl rfl rfl (by rfl) (fun b G w hb ho => exec_box rfl (zD rfl (HS0.get 0 rfl)) (by kernel_rfl))) ?_
    refine zA (zK 1 1 .i64 16 50 none _ _ rfl rfl (fun _ _ _ _ => rfl) rfl hLo rfl rfl rfl rfl (by rfl) (fun b G w _ _ => by kernel_rfl)) ?_
    refine zA (zC 2 _ rfl rfl hLo rfl rfl (fun _ _ _ _ => rfl) (fun b G w hb ho => zF (.inr rfl) (rfl))) ?_
    exact zE
  clear hLo
  intro G a1 w1 hS hH
  have HS1 : Sl a1 34 [(1, .pointer (some ⟨(G 0), 0, none⟩)), (2, .pointer (some ⟨(G 1), 0, none⟩))] := hS
  have HH1 : Held w w1 [⟨(G 0), .i64, 16, f, 50⟩, ⟨(G 1), .i64, 16, fun _ => 0, 50⟩] := hH
  clear hS hH HS0 HH0
  generalize G 0 = g1_0 at HS1 HH1
  generalize G 1 = g1_1 at HS1 HH1
  refine then_ ?_
  refine wp_seq ?_
  have hLo : LOk [(0, 6, .val (.agg (FR .i64 16 (f)))), (1, 7, .val (.string (sOf (exB 252 2)))), (2, 8, .val (.agg (FR .i64 16 (X)))), (3, 4, .ptr 3 0)] := lok rfl rfl
  refine yK (wE := w) (sz := 34) (n := 5) (B := [0, 0, 3, 0, 15]) [0, 1, 2, 3, 4] [(1, .val (.pointer (some ⟨g1_0, 0, none⟩))), (2, .val (.pointer (some ⟨g1_1, 0, none⟩))), (4, .ptr 3 0)] _ [⟨g1_0, none, none, .i64, 16, f, f, 50⟩, ⟨g1_1, none, none, .i64, 16, fun _ => 0, fun _ => 0, 50⟩, ⟨0, some 3, some 4, .i64, 16, fun _ => 0, X, 50⟩] (by rfl) rfl tabrtR_1 bitsrtR_1 (by kernel_rfl) (by kernel_rfl) HH1 rfl rfl hLo rfl HS1 (slS 0 rfl rfl (slS 1 rfl rfl (slL 3 (d := 3) rfl (trivial)))) ?_ ?_
  · show ∀ i ∈ [0, 1, 2, 3, 4], _
    refine zA (zG 0 0 _ rfl rfl rfl rfl (fun _ _ _ _ => rfl) hLo rfl rfl rfl (by rfl) Tryd.underlying50 zL rfl (fun b G hb ho => zD rfl (HS1.get 0 rfl))) ?_
    refine zA (zH 1 _ #[.int .i64 252, .int .i64 2] rfl rfl rfl (fun _ _ _ _ => rfl) hLo rfl rfl Tryd.func77 rfl rfl (fun b G hb ho => zU (rfl) (rfl)) (fun w hw => Exponent_calls 252 2 w (by omega) (by omega))) ?_
    refine zA (zH 2 _ #[.agg (FR .i64 16 (f)), .string (sOf (exB 252 2))] rfl rfl rfl (fun _ _ _ _ => rfl) hLo rfl rfl Tryd.func76 rfl rfl (fun b G hb ho => zU (zB hLo 0 rfl HS1.1 rfl (hb 0 (by rfl))) (zB hLo 1 rfl HS1.1 rfl (hb 1 (by rfl)))) (fun w hw => powR_x0 hX w hl)) ?_
    refine zA (zK 3 2 .i64 16 50 (some 4) _ _ rfl rfl (fun _ _ _ _ => rfl) rfl hLo rfl rfl rfl rfl (by rfl) (fun b G w _ _ => by kernel_rfl)) ?_
    refine zA (zI 2 _ rfl rfl rfl rfl rfl (fun _ _ _ _ => rfl) rfl rfl rfl (by rfl) zL (fun b G hb ho => zB hLo 3 rfl HS1.1 rfl (hb 3 (by rfl))) (fun b G hb ho => zB hLo 2 rfl HS1.1 rfl (hb 2 (by rfl)))) ?_
    exact zE
  clear hLo
  intro G a2 w2 hS hH
  have HS2 : Sl a2 34 [(1, .pointer (some ⟨g1_0, 0, none⟩)), (2, .pointer (some ⟨g1_1, 0, none⟩)), (4, .pointer (some ⟨(G 3), 0, none⟩))] := hS
  have HH2 : Held w w2 [⟨g1_0, .i64, 16, f, 50⟩, ⟨g1_1, .i64, 16, fun _ => 0, 50⟩, ⟨(G 3), .i64, 16, X, 50⟩] := hH
  clear hS hH HS1 HH1
  generalize G 3 = g2_3 at HS2 HH2
  refine then_ ?_
  refine wp_seq ?_
  have hLo : LOk [(0, 9, .val (.agg (FR .i64 16 (X)))), (1, 10, .val (.agg (FR .i64 16 (zM (fun i => if i = 0 then 2 else 0) 16)))), (2, 11, .val (.string (sOf (exB 253 5)))), (3, 12, .val (.agg (FR .i64 16 (iR)))), (4, 13, .val (.agg (FR .i64 16 (mulR X iR)))), (5, 5, .ptr 5 0)] := lok rfl rfl
  refine yK (wE := w) (sz := 34) (n := 7) (B := [0, 0, 2, 6, 15, 0, 63]) [0, 1, 2, 3, 4, 5, 6] [(1, .val (.pointer (some ⟨g1_0, 0, none⟩))), (2, .val (.pointer (some ⟨g1_1, 0, none⟩))), (4, .val (.pointer (some ⟨g2_3, 0, none⟩))), (5, .ptr 5 0)] _ [⟨g1_0, none, none, .i64, 16, f, f, 50⟩, ⟨g1_1, none, none, .i64, 16, fun _ => 0, fun _ => 0, 50⟩, ⟨g2_3, none, none, .i64, 16, X, X, 50⟩, ⟨0, some 5, some 6, .i64, 16, fun _ => 0, mulR X iR, 50⟩] (by rfl) rfl tabrtR_2 bitsrtR_2 (by kernel_rfl) (by kernel_rfl) HH2 rfl rfl hLo rfl HS2 (slS 0 rfl rfl (slS 1 rfl rfl (slS 2 rfl rfl (slL 5 (d := 5) rfl (trivial))))) ?_ ?_
  · show ∀ i ∈ [0, 1, 2, 3, 4, 5, 6], _
    refine zA (zG 0 2 _ rfl rfl rfl rfl (fun _ _ _ _ => rfl) hLo rfl rfl rfl (by rfl) Tryd.underlying50 zL rfl (fun b G hb ho => zD rfl (HS2.get 2 rfl))) ?_
    refine zA (zH 1 _ #[.int .i64 2] rfl rfl rfl (fun _ _ _ _ => rfl) hLo rfl rfl Tryd.func59 rfl rfl (fun b G hb ho => args1 (rfl)) (fun w hw => small_ref_calls 2 w (by omega))) ?_
    refine zA (zH 2 _ #[.int .i64 253, .int .i64 5] rfl rfl rfl (fun _ _ _ _ => rfl) hLo rfl rfl Tryd.func77 rfl rfl (fun b G hb ho => zU (rfl) (rfl)) (fun w hw => Exponent_calls 253 5 w (by omega) (by omega))) ?_
    refine zA (zH 3 _ #[.agg (FR .i64 16 (zM (fun i => if i = 0 then 2 else 0) 16)), .string (sOf (exB 253 5))] rfl rfl rfl (fun _ _ _ _ => rfl) hLo rfl rfl Tryd.func76 rfl rfl (fun b G hb ho => zU (zB hLo 1 rfl HS2.1 rfl (hb 1 (by rfl))) (zB hLo 2 rfl HS2.1 rfl (hb 2 (by rfl)))) (fun w hw => powR_i w)) ?_
    refine zA (zH 4 _ #[.agg (FR .i64 16 (X)), .agg (FR .i64 16 (iR))] rfl rfl rfl (fun _ _ _ _ => rfl) hLo rfl rfl Tryd.func45 rfl rfl (fun b G hb ho => zU (zB hLo 0 rfl HS2.1 rfl (hb 0 (by rfl))) (zB hLo 3 rfl HS2.1 rfl (hb 3 (by rfl)))) (fun w hw => mulR_c _ _ w hXl iR_Re.1)) ?_
    refine zA (zK 5 3 .i64 16 50 (some 6) _ _ rfl rfl (fun _ _ _ _ => rfl) rfl hLo rfl rfl rfl rfl (by rfl) (fun b G w _ _ => by kernel_rfl)) ?_
    refine zA (zI 3 _ rfl rfl rfl rfl rfl (fun _ _ _ _ => rfl) rfl rfl rfl (by rfl) zL (fun b G hb ho => zB hLo 5 rfl HS2.1 rfl (hb 5 (by rfl))) (fun b G hb ho => zB hLo 4 rfl HS2.1 rfl (hb 4 (by rfl)))) ?_
    exact zE
  clear hLo
  intro G a3 w3 hS hH
  have HS3 : Sl a3 34 [(1, .pointer (some ⟨g1_0, 0, none⟩)), (2, .pointer (some ⟨g1_1, 0, none⟩)), (4, .pointer (some ⟨g2_3, 0, none⟩)), (5, .pointer (some ⟨(G 5), 0, none⟩))] := hS
  have HH3 : Held w w3 [⟨g1_0, .i64, 16, f, 50⟩, ⟨g1_1, .i64, 16, fun _ => 0, 50⟩, ⟨g2_3, .i64, 16, X, 50⟩, ⟨(G 5), .i64, 16, mulR X iR, 50⟩] := hH
  clear hS hH HS2 HH2
  generalize G 5 = g3_5 at HS3 HH3
  refine then_ ?_
  refine wp_seq ?_
  refine wp_seq ?_
  have hLo : LOk [(0, 14, .val (.agg (FR .i64 16 (X)))), (1, 15, .val (.agg (FR .i64 16 (X)))), (2, 16, .val (.agg (FR .i64 16 (mulR X X)))), (3, 17, .val (.agg (FR .i64 16 (f)))), (4, 18, .val (.bool r0)), (5, 19, .val (.bool (!r0)))] := lok rfl rfl
  refine yK (wE := w) (sz := 34) (n := 6) (B := [0, 0, 3, 0, 15, 31]) [0, 1, 2, 3, 4, 5] [(1, .val (.pointer (some ⟨g1_0, 0, none⟩))), (2, .val (.pointer (some ⟨g1_1, 0, none⟩))), (4, .val (.pointer (some ⟨g2_3, 0, none⟩))), (5, .val (.pointer (some ⟨g3_5, 0, none⟩))), (19, .val (.bool (!r0)))] _ [⟨g1_0, none, none, .i64, 16, f, f, 50⟩, ⟨g1_1, none, none, .i64, 16, fun _ => 0, fun _ => 0, 50⟩, ⟨g2_3, none, none, .i64, 16, X, X, 50⟩, ⟨g3_5, none, none, .i64, 16, mulR X iR, mulR X iR, 50⟩] (by rfl) rfl tabrtR_3 bitsrtR_3 (by kernel_rfl) (by kernel_rfl) HH3 rfl rfl hLo rfl HS3 (slS 0 rfl rfl (slS 1 rfl rfl (slS 2 rfl rfl (slS 3 rfl rfl (slL 5 (d := 5) rfl (trivial)))))) ?_ ?_
  · show ∀ i ∈ [0, 1, 2, 3, 4, 5], _
    refine zA (zG 0 2 _ rfl rfl rfl rfl (fun _ _ _ _ => rfl) hLo rfl rfl rfl (by rfl) Tryd.underlying50 zL rfl (fun b G hb ho => zD rfl (HS3.get 2 rfl))) ?_
    refine zA (zG 1 2 _ rfl rfl rfl rfl (fun _ _ _ _ => rfl) hLo rfl rfl rfl (by rfl) Tryd.underlying50 zL rfl (fun b G hb ho => zD rfl (HS3.get 2 rfl))) ?_
    refine zA (zH 2 _ #[.agg (FR .i64 16 (X)), .agg (FR .i64 16 (X))] rfl rfl rfl (fun _ _ _ _ => rfl) hLo rfl rfl Tryd.func45 rfl rfl (fun b G hb ho => zU (zB hLo 0 rfl HS3.1 rfl (hb 0 (by rfl))) (zB hLo 1 rfl HS3.1 rfl (hb 1 (by rfl)))) (fun w hw => mulR_c _ _ w hXl hXl)) ?_
    refine zA (zG 3 0 _ rfl rfl rfl rfl (fun _ _ _ _ => rfl) hLo rfl rfl rfl (by rfl) Tryd.underlying50 zL rfl (fun b G hb ho => zD rfl (HS3.get 0 rfl))) ?_
    refine zA (zH 4 _ #[.agg (FR .i64 16 (mulR X X)), .agg (FR .i64 16 (f))] rfl rfl rfl (fun _ _ _ _ => rfl) hLo rfl rfl Tryd.func64 rfl rfl (fun b G hb ho => zU (zB hLo 2 rfl HS3.1 rfl (hb 2 (by rfl))) (zB hLo 3 rfl HS3.1 rfl (hb 3 (by rfl)))) (fun w hw => refIs_bool (hXf.mul hXf) hf r0 hr0 w)) ?_
    refine zA (zC 5 _ rfl rfl hLo rfl rfl (fun _ _ _ _ => rfl) (fun b G w hb ho => exec_un rfl (zB hLo 4 rfl HS3.1 rfl (hb 4 (by rfl))) (by rfl))) ?_
    exact zE
  clear hLo
  intro G a4 w4 hS hH
  have HS4 : Sl a4 34 [(1, .pointer (some ⟨g1_0, 0, none⟩)), (2, .pointer (some ⟨g1_1, 0, none⟩)), (4, .pointer (some ⟨g2_3, 0, none⟩)), (5, .pointer (some ⟨g3_5, 0, none⟩)), (19, .bool (!r0))] := hS
  have HH4 : Held w w4 [⟨g1_0, .i64, 16, f, 50⟩, ⟨g1_1, .i64, 16, fun _ => 0, 50⟩, ⟨g2_3, .i64, 16, X, 50⟩, ⟨g3_5, .i64, 16, mulR X iR, 50⟩] := hH
  clear hS hH HS3 HH3
  refine then_ ?_
  cases r0
  · skip
    refine wp_cond_true (HS4.get 4 rfl) ?_
    have hLo : LOk [(0, 20, .val (.agg (FR .i64 16 (mulR X iR))))] := lok rfl rfl
    refine zJ (wE := w) (sz := 34) (n := 2) [0, 1] [(1, .val (.pointer (some ⟨g1_0, 0, none⟩))), (2, .val (.pointer (some ⟨g1_1, 0, none⟩))), (4, .val (.pointer (some ⟨g2_3, 0, none⟩)))] _ [⟨g1_0, none, none, .i64, 16, f, f, 50⟩, ⟨g1_1, none, none, .i64, 16, fun _ => 0, fun _ => 0, 50⟩, ⟨g2_3, none, some 1, .i64, 16, X, mulR X iR, 50⟩, ⟨g3_5, none, none, .i64, 16, mulR X iR, mulR X iR, 50⟩] rfl (by rfl) HH4 rfl rfl hLo rfl HS4 (slS 0 rfl rfl (slS 1 rfl rfl (slS 2 rfl rfl (trivial)))) ?_ ?_
    · show ∀ i ∈ [0, 1], _
      refine zA (zG 0 3 _ rfl rfl rfl rfl (fun _ _ _ _ => rfl) hLo rfl rfl rfl (by rfl) Tryd.underlying50 zL rfl (fun b G hb ho => zD rfl (HS4.get 3 rfl))) ?_
      refine zA (zI 2 _ rfl rfl rfl rfl rfl (fun _ _ _ _ => rfl) rfl rfl rfl (by rfl) zL (fun b G hb ho => zD rfl (HS4.get 2 rfl)) (fun b G hb ho => zB hLo 0 rfl HS4.1 rfl (hb 0 (by rfl)))) ?_
      exact zE
    clear hLo
    intro G a5 w5 hS hH
    have HS5 : Sl a5 34 [(1, .pointer (some ⟨g1_0, 0, none⟩)), (2, .pointer (some ⟨g1_1, 0, none⟩)), (4, .pointer (some ⟨g2_3, 0, none⟩))] := hS
    have HH5 : Held w w5 [⟨g1_0, .i64, 16, f, 50⟩, ⟨g1_1, .i64, 16, fun _ => 0, 50⟩, ⟨g2_3, .i64, 16, mulR X iR, 50⟩, ⟨g3_5, .i64, 16, mulR X iR, 50⟩] := hH
    clear hS hH HS4 HH4
    refine then_ ?_
    rw [show mulR X iR = Y by rw [← hX, ← hY]; exact (x1R_n hr0).symm] at HH5
    refine wp_seq ?_
    refine wp_seq ?_
    have hLo : LOk [(0, 21, .val (.agg (FR .i64 16 (Y)))), (1, 22, .val (.agg (FR .i64 16 (Y)))), (2, 23, .val (.agg (FR .i64 16 (mulR Y Y)))), (3, 24, .val (.agg (FR .i64 16 (f)))), (4, 25, .val (.bool r1)), (5, 26, .val (.bool (!r1)))] := lok rfl rfl
    refine yK (wE := w) (sz := 34) (n := 6) (B := [0, 0, 3, 0, 15, 31]) [0, 1, 2, 3, 4, 5] [(1, .val (.pointer (some ⟨g1_0, 0, none⟩))), (2, .val (.pointer (some ⟨g1_1, 0, none⟩))), (4, .val (.pointer (some ⟨g2_3, 0, none⟩))), (26, .val (.bool (!r1)))] _ [⟨g1_0, none, none, .i64, 16, f, f, 50⟩, ⟨g1_1, none, none, .i64, 16, fun _ => 0, fun _ => 0, 50⟩, ⟨g2_3, none, none, .i64, 16, Y, Y, 50⟩, ⟨g3_5, none, none, .i64, 16, Y, Y, 50⟩] (by rfl) rfl tabrtR_5 bitsrtR_5 (by kernel_rfl) (by kernel_rfl) HH5 rfl rfl hLo rfl HS5 (slS 0 rfl rfl (slS 1 rfl rfl (slS 2 rfl rfl (slL 5 (d := 5) rfl (trivial))))) ?_ ?_
    · show ∀ i ∈ [0, 1, 2, 3, 4, 5], _
      refine zA (zG 0 2 _ rfl rfl rfl rfl (fun _ _ _ _ => rfl) hLo rfl rfl rfl (by rfl) Tryd.underlying50 zL rfl (fun b G hb ho => zD rfl (HS5.get 2 rfl))) ?_
      refine zA (zG 1 2 _ rfl rfl rfl rfl (fun _ _ _ _ => rfl) hLo rfl rfl rfl (by rfl) Tryd.underlying50 zL rfl (fun b G hb ho => zD rfl (HS5.get 2 rfl))) ?_
      refine zA (zH 2 _ #[.agg (FR .i64 16 (Y)), .agg (FR .i64 16 (Y))] rfl rfl rfl (fun _ _ _ _ => rfl) hLo rfl rfl Tryd.func45 rfl rfl (fun b G hb ho => zU (zB hLo 0 rfl HS5.1 rfl (hb 0 (by rfl))) (zB hLo 1 rfl HS5.1 rfl (hb 1 (by rfl)))) (fun w hw => mulR_c _ _ w hYl hYl)) ?_
      refine zA (zG 3 0 _ rfl rfl rfl rfl (fun _ _ _ _ => rfl) hLo rfl rfl rfl (by rfl) Tryd.underlying50 zL rfl (fun b G hb ho => zD rfl (HS5.get 0 rfl))) ?_
      refine zA (zH 4 _ #[.agg (FR .i64 16 (mulR Y Y)), .agg (FR .i64 16 (f))] rfl rfl rfl (fun _ _ _ _ => rfl) hLo rfl rfl Tryd.func64 rfl rfl (fun b G hb ho => zU (zB hLo 2 rfl HS5.1 rfl (hb 2 (by rfl))) (zB hLo 3 rfl HS5.1 rfl (hb 3 (by rfl)))) (fun w hw => refIs_bool (hYf.mul hYf) hf r1 hr1 w)) ?_
      refine zA (zC 5 _ rfl rfl hLo rfl rfl (fun _ _ _ _ => rfl) (fun b G w hb ho => exec_un rfl (zB hLo 4 rfl HS5.1 rfl (hb 4 (by rfl))) (by rfl))) ?_
      exact zE
    clear hLo
    intro G a6 w6 hS hH
    have HS6 : Sl a6 34 [(1, .pointer (some ⟨g1_0, 0, none⟩)), (2, .pointer (some ⟨g1_1, 0, none⟩)), (4, .pointer (some ⟨g2_3, 0, none⟩)), (26, .bool (!r1))] := hS
    have HH6 : Held w w6 [⟨g1_0, .i64, 16, f, 50⟩, ⟨g1_1, .i64, 16, fun _ => 0, 50⟩, ⟨g2_3, .i64, 16, Y, 50⟩, ⟨g3_5, .i64, 16, Y, 50⟩] := hH
    clear hS hH HS5 HH5
    refine then_ ?_
    cases r1
    · skip
      refine wp_cond_true (HS6.get 3 rfl) ?_
      refine wp_seq ?_
      have hLo : LOk [(0, 27, .val (.agg (FR .i64 16 (fun _ => 0)))), (2, 3, .val (.bool false))] := lok rfl rfl
      refine zJ (wE := w) (sz := 34) (n := 3) [0, 1, 3] [(2, .val (.pointer (some ⟨g1_1, 0, none⟩))), (3, .val (.bool false))] _ [⟨g1_0, none, none, .i64, 16, f, f, 50⟩, ⟨g1_1, none, some 1, .i64, 16, fun _ => 0, fun _ => 0, 50⟩, ⟨g2_3, none, none, .i64, 16, Y, Y, 50⟩, ⟨g3_5, none, none, .i64, 16, Y, Y, 50⟩] rfl (by rfl) HH6 rfl rfl hLo rfl HS6 (slS 1 rfl rfl (slL 1 (d := 2) rfl (trivial))) ?_ ?_
      · show ∀ i ∈ [0, 1, 2], _
        refine zA (zC 0 _ rfl rfl hLo rfl rfl (fun _ _ _ _ => rfl) (fun b G w hb ho => zZ rfl (parts0 ) (by kernel_rfl))) ?_
        refine zA (zI 1 _ rfl rfl rfl rfl rfl (fun _ _ _ _ => rfl) rfl rfl rfl (by rfl) zL (fun b G hb ho => zD rfl (HS6.get 1 rfl)) (fun b G hb ho => zB hLo 0 rfl HS6.1 rfl (hb 0 (by rfl)))) ?_
        refine zA (zC 1 _ rfl rfl hLo rfl rfl (fun _ _ _ _ => rfl) (fun b G w hb ho => zF (.inr rfl) (rfl))) ?_
        exact zE
      clear hLo
      intro G a7 w7 hS hH
      have HS7 : Sl a7 34 [(2, .pointer (some ⟨g1_1, 0, none⟩)), (3, .bool false)] := hS
      have HH7 : Held w w7 [⟨g1_0, .i64, 16, f, 50⟩, ⟨g1_1, .i64, 16, fun _ => 0, 50⟩, ⟨g2_3, .i64, 16, Y, 50⟩, ⟨g3_5, .i64, 16, Y, 50⟩] := hH
      clear hS hH HS6 HH6
      refine then_ ?_
      refine wp_ret ?_
      repeat refine yC ?_
      exact b_row2 rfl HS7.2.1 (HS7.get 0 rfl) (HS7.get 1 rfl) (HH7.row 1 rfl) Tryd.underlying50 rfl zL ⟨by rw [rtR_no hr1], HH7.1⟩
    · skip
      refine wp_cond_false (HS6.get 3 rfl) ?_
      refine wp_skip ?_
      refine then_ ?_
      refine wp_seq ?_
      refine wp_seq ?_
      have hLo : LOk [(0, 28, .val (.agg (FR .i64 16 (Y)))), (1, 29, .val (.bool r2))] := lok rfl rfl
      refine zJ (wE := w) (sz := 34) (n := 2) [0, 1] [(2, .val (.pointer (some ⟨g1_1, 0, none⟩))), (4, .val (.pointer (some ⟨g2_3, 0, none⟩))), (29, .val (.bool r2))] _ [⟨g1_0, none, none, .i64, 16, f, f, 50⟩, ⟨g1_1, none, none, .i64, 16, fun _ => 0, fun _ => 0, 50⟩, ⟨g2_3, none, none, .i64, 16, Y, Y, 50⟩, ⟨g3_5, none, none, .i64, 16, Y, Y, 50⟩] rfl (by rfl) HH6 rfl rfl hLo rfl HS6 (slS 1 rfl rfl (slS 2 rfl rfl (slL 1 (d := 1) rfl (trivial)))) ?_ ?_
      · show ∀ i ∈ [0, 1], _
        refine zA (zG 0 2 _ rfl rfl rfl rfl (fun _ _ _ _ => rfl) hLo rfl rfl rfl (by rfl) Tryd.underlying50 zL rfl (fun b G hb ho => zD rfl (HS6.get 2 rfl))) ?_
        refine zA (zH 1 _ #[.agg (FR .i64 16 (Y))] rfl rfl rfl (fun _ _ _ _ => rfl) hLo rfl rfl Tryd.func46 rfl rfl (fun b G hb ho => args1 (zB hLo 0 rfl HS6.1 rfl (hb 0 (by rfl)))) (fun w hw => refOdd_bool hYf r2 hr2 w)) ?_
        exact zE
      clear hLo
      intro G a8 w8 hS hH
      have HS8 : Sl a8 34 [(2, .pointer (some ⟨g1_1, 0, none⟩)), (4, .pointer (some ⟨g2_3, 0, none⟩)), (29, .bool r2)] := hS
      have HH8 : Held w w8 [⟨g1_0, .i64, 16, f, 50⟩, ⟨g1_1, .i64, 16, fun _ => 0, 50⟩, ⟨g2_3, .i64, 16, Y, 50⟩, ⟨g3_5, .i64, 16, Y, 50⟩] := hH
      clear hS hH HS6 HH6
      refine then_ ?_
      cases r2
      · skip
        refine wp_cond_false (HS8.get 2 rfl) ?_
        refine wp_skip ?_
        refine then_ ?_
        refine wp_seq ?_
        have hLo : LOk [(0, 33, .val (.agg (FR .i64 16 (Y)))), (2, 3, .val (.bool true))] := lok rfl rfl
        refine zJ (wE := w) (sz := 34) (n := 3) [0, 1, 3] [(2, .val (.pointer (some ⟨g1_1, 0, none⟩))), (3, .val (.bool true))] _ [⟨g1_0, none, none, .i64, 16, f, f, 50⟩, ⟨g1_1, none, some 1, .i64, 16, fun _ => 0, Y, 50⟩, ⟨g2_3, none, none, .i64, 16, Y, Y, 50⟩, ⟨g3_5, none, none, .i64, 16, Y, Y, 50⟩] rfl (by rfl) HH8 rfl rfl hLo rfl HS8 (slS 0 rfl rfl (slL 1 (d := 2) rfl (trivial))) ?_ ?_
        · show ∀ i ∈ [0, 1, 2], _
          refine zA (zG 0 2 _ rfl rfl rfl rfl (fun _ _ _ _ => rfl) hLo rfl rfl rfl (by rfl) Tryd.underlying50 zL rfl (fun b G hb ho => zD rfl (HS8.get 1 rfl))) ?_
          refine zA (zI 1 _ rfl rfl rfl rfl rfl (fun _ _ _ _ => rfl) rfl rfl rfl (by rfl) zL (fun b G hb ho => zD rfl (HS8.get 0 rfl)) (fun b G hb ho => zB hLo 0 rfl HS8.1 rfl (hb 0 (by rfl)))) ?_
          refine zA (zC 1 _ rfl rfl hLo rfl rfl (fun _ _ _ _ => rfl) (fun b G w hb ho => zF (.inr rfl) (rfl))) ?_
          exact zE
        clear hLo
        intro G a9 w9 hS hH
        have HS9 : Sl a9 34 [(2, .pointer (some ⟨g1_1, 0, none⟩)), (3, .bool true)] := hS
        have HH9 : Held w w9 [⟨g1_0, .i64, 16, f, 50⟩, ⟨g1_1, .i64, 16, Y, 50⟩, ⟨g2_3, .i64, 16, Y, 50⟩, ⟨g3_5, .i64, 16, Y, 50⟩] := hH
        clear hS hH HS8 HH8
        refine then_ ?_
        refine wp_ret ?_
        repeat refine yC ?_
        exact b_row2 rfl HS9.2.1 (HS9.get 0 rfl) (HS9.get 1 rfl) (HH9.row 1 rfl) Tryd.underlying50 rfl zL ⟨by rw [rtR_n hr1 hr2, hY], HH9.1⟩
      · skip
        refine wp_cond_true (HS8.get 2 rfl) ?_
        have hLo : LOk [(0, 30, .val (.agg (FR .i64 16 (fun _ => 0)))), (1, 31, .val (.agg (FR .i64 16 (Y)))), (2, 32, .val (.agg (FR .i64 16 (subR (fun _ => 0) Y))))] := lok rfl rfl
        refine zJ (wE := w) (sz := 34) (n := 4) [0, 1, 3, 7] [(2, .val (.pointer (some ⟨g1_1, 0, none⟩))), (4, .val (.pointer (some ⟨g2_3, 0, none⟩)))] _ [⟨g1_0, none, none, .i64, 16, f, f, 50⟩, ⟨g1_1, none, none, .i64, 16, fun _ => 0, fun _ => 0, 50⟩, ⟨g2_3, none, some 3, .i64, 16, Y, subR (fun _ => 0) Y, 50⟩, ⟨g3_5, none, none, .i64, 16, Y, Y, 50⟩] rfl (by rfl) HH8 rfl rfl hLo rfl HS8 (slS 0 rfl rfl (slS 1 rfl rfl (trivial))) ?_ ?_
        · show ∀ i ∈ [0, 1, 2, 3], _
          refine zA (zC 0 _ rfl rfl hLo rfl rfl (fun _ _ _ _ => rfl) (fun b G w hb ho => zZ rfl (parts0 ) (by kernel_rfl))) ?_
          refine zA (zG 1 2 _ rfl rfl rfl rfl (fun _ _ _ _ => rfl) hLo rfl rfl rfl (by rfl) Tryd.underlying50 zL rfl (fun b G hb ho => zD rfl (HS8.get 1 rfl))) ?_
          refine zA (zH 2 _ #[.agg (FR .i64 16 (fun _ => 0)), .agg (FR .i64 16 (Y))] rfl rfl rfl (fun _ _ _ _ => rfl) hLo rfl rfl Tryd.func60 rfl rfl (fun b G hb ho => zU (zB hLo 0 rfl HS8.1 rfl (hb 0 (by rfl))) (zB hLo 1 rfl HS8.1 rfl (hb 1 (by rfl)))) (fun w hw => subR_c _ _ w Re.zero.1 hYl)) ?_
          refine zA (zI 2 _ rfl rfl rfl rfl rfl (fun _ _ _ _ => rfl) rfl rfl rfl (by rfl) zL (fun b G hb ho => zD rfl (HS8.get 1 rfl)) (fun b G hb ho => zB hLo 2 rfl HS8.1 rfl (hb 2 (by rfl)))) ?_
          exact zE
        clear hLo
        intro G a10 w10 hS hH
        have HS10 : Sl a10 34 [(2, .pointer (some ⟨g1_1, 0, none⟩)), (4, .pointer (some ⟨g2_3, 0, none⟩))] := hS
        have HH10 : Held w w10 [⟨g1_0, .i64, 16, f, 50⟩, ⟨g1_1, .i64, 16, fun _ => 0, 50⟩, ⟨g2_3, .i64, 16, subR (fun _ => 0) Y, 50⟩, ⟨g3_5, .i64, 16, Y, 50⟩] := hH
        clear hS hH HS8 HH8
        refine then_ ?_
        refine wp_seq ?_
        have hLo : LOk [(0, 33, .val (.agg (FR .i64 16 (subR (fun _ => 0) Y)))), (2, 3, .val (.bool true))] := lok rfl rfl
        refine zJ (wE := w) (sz := 34) (n := 3) [0, 1, 3] [(2, .val (.pointer (some ⟨g1_1, 0, none⟩))), (3, .val (.bool true))] _ [⟨g1_0, none, none, .i64, 16, f, f, 50⟩, ⟨g1_1, none, some 1, .i64, 16, fun _ => 0, subR (fun _ => 0) Y, 50⟩, ⟨g2_3, none, none, .i64, 16, subR (fun _ => 0) Y, subR (fun _ => 0) Y, 50⟩, ⟨g3_5, none, none, .i64, 16, Y, Y, 50⟩] rfl (by rfl) HH10 rfl rfl hLo rfl HS10 (slS 0 rfl rfl (slL 1 (d := 2) rfl (trivial))) ?_ ?_
        · show ∀ i ∈ [0, 1, 2], _
          refine zA (zG 0 2 _ rfl rfl rfl rfl (fun _ _ _ _ => rfl) hLo rfl rfl rfl (by rfl) Tryd.underlying50 zL rfl (fun b G hb ho => zD rfl (HS10.get 1 rfl))) ?_
          refine zA (zI 1 _ rfl rfl rfl rfl rfl (fun _ _ _ _ => rfl) rfl rfl rfl (by rfl) zL (fun b G hb ho => zD rfl (HS10.get 0 rfl)) (fun b G hb ho => zB hLo 0 rfl HS10.1 rfl (hb 0 (by rfl)))) ?_
          refine zA (zC 1 _ rfl rfl hLo rfl rfl (fun _ _ _ _ => rfl) (fun b G w hb ho => zF (.inr rfl) (rfl))) ?_
          exact zE
        clear hLo
        intro G a11 w11 hS hH
        have HS11 : Sl a11 34 [(2, .pointer (some ⟨g1_1, 0, none⟩)), (3, .bool true)] := hS
        have HH11 : Held w w11 [⟨g1_0, .i64, 16, f, 50⟩, ⟨g1_1, .i64, 16, subR (fun _ => 0) Y, 50⟩, ⟨g2_3, .i64, 16, subR (fun _ => 0) Y, 50⟩, ⟨g3_5, .i64, 16, Y, 50⟩] := hH
        clear hS hH HS10 HH10
        refine then_ ?_
        refine wp_ret ?_
        repeat refine yC ?_
        exact b_row2 rfl HS11.2.1 (HS11.get 0 rfl) (HS11.get 1 rfl) (HH11.row 1 rfl) Tryd.underlying50 rfl zL ⟨by rw [rtR_y hr1 hr2, hY], HH11.1⟩
  · skip
    refine wp_cond_false (HS4.get 4 rfl) ?_
    refine wp_skip ?_
    refine then_ ?_
    have hXY : X = Y := by rw [← hX, ← hY]; exact (x1R_y hr0).symm
    rw [hXY] at HH4
    refine wp_seq ?_
    refine wp_seq ?_
    have hLo : LOk [(0, 21, .val (.agg (FR .i64 16 (Y)))), (1, 22, .val (.agg (FR .i64 16 (Y)))), (2, 23, .val (.agg (FR .i64 16 (mulR Y Y)))), (3, 24, .val (.agg (FR .i64 16 (f)))), (4, 25, .val (.bool r1)), (5, 26, .val (.bool (!r1)))] := lok rfl rfl
    refine yK (wE := w) (sz := 34) (n := 6) (B := [0, 0, 3, 0, 15, 31]) [0, 1, 2, 3, 4, 5] [(1, .val (.pointer (some ⟨g1_0, 0, none⟩))), (2, .val (.pointer (some ⟨g1_1, 0, none⟩))), (4, .val (.pointer (some ⟨g2_3, 0, none⟩))), (26, .val (.bool (!r1)))] _ [⟨g1_0, none, none, .i64, 16, f, f, 50⟩, ⟨g1_1, none, none, .i64, 16, fun _ => 0, fun _ => 0, 50⟩, ⟨g2_3, none, none, .i64, 16, Y, Y, 50⟩, ⟨g3_5, none, none, .i64, 16, mulR Y iR, mulR Y iR, 50⟩] (by rfl) rfl tabrtR_5 bitsrtR_5 (by kernel_rfl) (by kernel_rfl) HH4 rfl rfl hLo rfl HS4 (slS 0 rfl rfl (slS 1 rfl rfl (slS 2 rfl rfl (slL 5 (d := 5) rfl (trivial))))) ?_ ?_
    · show ∀ i ∈ [0, 1, 2, 3, 4, 5], _
      refine zA (zG 0 2 _ rfl rfl rfl rfl (fun _ _ _ _ => rfl) hLo rfl rfl rfl (by rfl) Tryd.underlying50 zL rfl (fun b G hb ho => zD rfl (HS4.get 2 rfl))) ?_
      refine zA (zG 1 2 _ rfl rfl rfl rfl (fun _ _ _ _ => rfl) hLo rfl rfl rfl (by rfl) Tryd.underlying50 zL rfl (fun b G hb ho => zD rfl (HS4.get 2 rfl))) ?_
      refine zA (zH 2 _ #[.agg (FR .i64 16 (Y)), .agg (FR .i64 16 (Y))] rfl rfl rfl (fun _ _ _ _ => rfl) hLo rfl rfl Tryd.func45 rfl rfl (fun b G hb ho => zU (zB hLo 0 rfl HS4.1 rfl (hb 0 (by rfl))) (zB hLo 1 rfl HS4.1 rfl (hb 1 (by rfl)))) (fun w hw => mulR_c _ _ w hYl hYl)) ?_
      refine zA (zG 3 0 _ rfl rfl rfl rfl (fun _ _ _ _ => rfl) hLo rfl rfl rfl (by rfl) Tryd.underlying50 zL rfl (fun b G hb ho => zD rfl (HS4.get 0 rfl))) ?_
      refine zA (zH 4 _ #[.agg (FR .i64 16 (mulR Y Y)), .agg (FR .i64 16 (f))] rfl rfl rfl (fun _ _ _ _ => rfl) hLo rfl rfl Tryd.func64 rfl rfl (fun b G hb ho => zU (zB hLo 2 rfl HS4.1 rfl (hb 2 (by rfl))) (zB hLo 3 rfl HS4.1 rfl (hb 3 (by rfl)))) (fun w hw => refIs_bool (hYf.mul hYf) hf r1 hr1 w)) ?_
      refine zA (zC 5 _ rfl rfl hLo rfl rfl (fun _ _ _ _ => rfl) (fun b G w hb ho => exec_un rfl (zB hLo 4 rfl HS4.1 rfl (hb 4 (by rfl))) (by rfl))) ?_
      exact zE
    clear hLo
    intro G a12 w12 hS hH
    have HS12 : Sl a12 34 [(1, .pointer (some ⟨g1_0, 0, none⟩)), (2, .pointer (some ⟨g1_1, 0, none⟩)), (4, .pointer (some ⟨g2_3, 0, none⟩)), (26, .bool (!r1))] := hS
    have HH12 : Held w w12 [⟨g1_0, .i64, 16, f, 50⟩, ⟨g1_1, .i64, 16, fun _ => 0, 50⟩, ⟨g2_3, .i64, 16, Y, 50⟩, ⟨g3_5, .i64, 16, mulR Y iR, 50⟩] := hH
    clear hS hH HS4 HH4
    refine then_ ?_
    cases r1
    · skip
      refine wp_cond_true (HS12.get 3 rfl) ?_
      refine wp_seq ?_
      have hLo : LOk [(0, 27, .val (.agg (FR .i64 16 (fun _ => 0)))), (2, 3, .val (.bool false))] := lok rfl rfl
      refine zJ (wE := w) (sz := 34) (n := 3) [0, 1, 3] [(2, .val (.pointer (some ⟨g1_1, 0, none⟩))), (3, .val (.bool false))] _ [⟨g1_0, none, none, .i64, 16, f, f, 50⟩, ⟨g1_1, none, some 1, .i64, 16, fun _ => 0, fun _ => 0, 50⟩, ⟨g2_3, none, none, .i64, 16, Y, Y, 50⟩, ⟨g3_5, none, none, .i64, 16, mulR Y iR, mulR Y iR, 50⟩] rfl (by rfl) HH12 rfl rfl hLo rfl HS12 (slS 1 rfl rfl (slL 1 (d := 2) rfl (trivial))) ?_ ?_
      · show ∀ i ∈ [0, 1, 2], _
        refine zA (zC 0 _ rfl rfl hLo rfl rfl (fun _ _ _ _ => rfl) (fun b G w hb ho => zZ rfl (parts0 ) (by kernel_rfl))) ?_
        refine zA (zI 1 _ rfl rfl rfl rfl rfl (fun _ _ _ _ => rfl) rfl rfl rfl (by rfl) zL (fun b G hb ho => zD rfl (HS12.get 1 rfl)) (fun b G hb ho => zB hLo 0 rfl HS12.1 rfl (hb 0 (by rfl)))) ?_
        refine zA (zC 1 _ rfl rfl hLo rfl rfl (fun _ _ _ _ => rfl) (fun b G w hb ho => zF (.inr rfl) (rfl))) ?_
        exact zE
      clear hLo
      intro G a13 w13 hS hH
      have HS13 : Sl a13 34 [(2, .pointer (some ⟨g1_1, 0, none⟩)), (3, .bool false)] := hS
      have HH13 : Held w w13 [⟨g1_0, .i64, 16, f, 50⟩, ⟨g1_1, .i64, 16, fun _ => 0, 50⟩, ⟨g2_3, .i64, 16, Y, 50⟩, ⟨g3_5, .i64, 16, mulR Y iR, 50⟩] := hH
      clear hS hH HS12 HH12
      refine then_ ?_
      refine wp_ret ?_
      repeat refine yC ?_
      exact b_row2 rfl HS13.2.1 (HS13.get 0 rfl) (HS13.get 1 rfl) (HH13.row 1 rfl) Tryd.underlying50 rfl zL ⟨by rw [rtR_no hr1], HH13.1⟩
    · skip
      refine wp_cond_false (HS12.get 3 rfl) ?_
      refine wp_skip ?_
      refine then_ ?_
      refine wp_seq ?_
      refine wp_seq ?_
      have hLo : LOk [(0, 28, .val (.agg (FR .i64 16 (Y)))), (1, 29, .val (.bool r2))] := lok rfl rfl
      refine zJ (wE := w) (sz := 34) (n := 2) [0, 1] [(2, .val (.pointer (some ⟨g1_1, 0, none⟩))), (4, .val (.pointer (some ⟨g2_3, 0, none⟩))), (29, .val (.bool r2))] _ [⟨g1_0, none, none, .i64, 16, f, f, 50⟩, ⟨g1_1, none, none, .i64, 16, fun _ => 0, fun _ => 0, 50⟩, ⟨g2_3, none, none, .i64, 16, Y, Y, 50⟩, ⟨g3_5, none, none, .i64, 16, mulR Y iR, mulR Y iR, 50⟩] rfl (by rfl) HH12 rfl rfl hLo rfl HS12 (slS 1 rfl rfl (slS 2 rfl rfl (slL 1 (d := 1) rfl (trivial)))) ?_ ?_
      · show ∀ i ∈ [0, 1], _
        refine zA (zG 0 2 _ rfl rfl rfl rfl (fun _ _ _ _ => rfl) hLo rfl rfl rfl (by rfl) Tryd.underlying50 zL rfl (fun b G hb ho => zD rfl (HS12.get 2 rfl))) ?_
        refine zA (zH 1 _ #[.agg (FR .i64 16 (Y))] rfl rfl rfl (fun _ _ _ _ => rfl) hLo rfl rfl Tryd.func46 rfl rfl (fun b G hb ho => args1 (zB hLo 0 rfl HS12.1 rfl (hb 0 (by rfl)))) (fun w hw => refOdd_bool hYf r2 hr2 w)) ?_
        exact zE
      clear hLo
      intro G a14 w14 hS hH
      have HS14 : Sl a14 34 [(2, .pointer (some ⟨g1_1, 0, none⟩)), (4, .pointer (some ⟨g2_3, 0, none⟩)), (29, .bool r2)] := hS
      have HH14 : Held w w14 [⟨g1_0, .i64, 16, f, 50⟩, ⟨g1_1, .i64, 16, fun _ => 0, 50⟩, ⟨g2_3, .i64, 16, Y, 50⟩, ⟨g3_5, .i64, 16, mulR Y iR, 50⟩] := hH
      clear hS hH HS12 HH12
      refine then_ ?_
      cases r2
      · skip
        refine wp_cond_false (HS14.get 2 rfl) ?_
        refine wp_skip ?_
        refine then_ ?_
        refine wp_seq ?_
        have hLo : LOk [(0, 33, .val (.agg (FR .i64 16 (Y)))), (2, 3, .val (.bool true))] := lok rfl rfl
        refine zJ (wE := w) (sz := 34) (n := 3) [0, 1, 3] [(2, .val (.pointer (some ⟨g1_1, 0, none⟩))), (3, .val (.bool true))] _ [⟨g1_0, none, none, .i64, 16, f, f, 50⟩, ⟨g1_1, none, some 1, .i64, 16, fun _ => 0, Y, 50⟩, ⟨g2_3, none, none, .i64, 16, Y, Y, 50⟩, ⟨g3_5, none, none, .i64, 16, mulR Y iR, mulR Y iR, 50⟩] rfl (by rfl) HH14 rfl rfl hLo rfl HS14 (slS 0 rfl rfl (slL 1 (d := 2) rfl (trivial))) ?_ ?_
        · show ∀ i ∈ [0, 1, 2], _
          refine zA (zG 0 2 _ rfl rfl rfl rfl (fun _ _ _ _ => rfl) hLo rfl rfl rfl (by rfl) Tryd.underlying50 zL rfl (fun b G hb ho => zD rfl (HS14.get 1 rfl))) ?_
          refine zA (zI 1 _ rfl rfl rfl rfl rfl (fun _ _ _ _ => rfl) rfl rfl rfl (by rfl) zL (fun b G hb ho => zD rfl (HS14.get 0 rfl)) (fun b G hb ho => zB hLo 0 rfl HS14.1 rfl (hb 0 (by rfl)))) ?_
          refine zA (zC 1 _ rfl rfl hLo rfl rfl (fun _ _ _ _ => rfl) (fun b G w hb ho => zF (.inr rfl) (rfl))) ?_
          exact zE
        clear hLo
        intro G a15 w15 hS hH
        have HS15 : Sl a15 34 [(2, .pointer (some ⟨g1_1, 0, none⟩)), (3, .bool true)] := hS
        have HH15 : Held w w15 [⟨g1_0, .i64, 16, f, 50⟩, ⟨g1_1, .i64, 16, Y, 50⟩, ⟨g2_3, .i64, 16, Y, 50⟩, ⟨g3_5, .i64, 16, mulR Y iR, 50⟩] := hH
        clear hS hH HS14 HH14
        refine then_ ?_
        refine wp_ret ?_
        repeat refine yC ?_
        exact b_row2 rfl HS15.2.1 (HS15.get 0 rfl) (HS15.get 1 rfl) (HH15.row 1 rfl) Tryd.underlying50 rfl zL ⟨by rw [rtR_n hr1 hr2, hY], HH15.1⟩
      · skip
        refine wp_cond_true (HS14.get 2 rfl) ?_
        have hLo : LOk [(0, 30, .val (.agg (FR .i64 16 (fun _ => 0)))), (1, 31, .val (.agg (FR .i64 16 (Y)))), (2, 32, .val (.agg (FR .i64 16 (subR (fun _ => 0) Y))))] := lok rfl rfl
        refine zJ (wE := w) (sz := 34) (n := 4) [0, 1, 3, 7] [(2, .val (.pointer (some ⟨g1_1, 0, none⟩))), (4, .val (.pointer (some ⟨g2_3, 0, none⟩)))] _ [⟨g1_0, none, none, .i64, 16, f, f, 50⟩, ⟨g1_1, none, none, .i64, 16, fun _ => 0, fun _ => 0, 50⟩, ⟨g2_3, none, some 3, .i64, 16, Y, subR (fun _ => 0) Y, 50⟩, ⟨g3_5, none, none, .i64, 16, mulR Y iR, mulR Y iR, 50⟩] rfl (by rfl) HH14 rfl rfl hLo rfl HS14 (slS 0 rfl rfl (slS 1 rfl rfl (trivial))) ?_ ?_
        · show ∀ i ∈ [0, 1, 2, 3], _
          refine zA (zC 0 _ rfl rfl hLo rfl rfl (fun _ _ _ _ => rfl) (fun b G w hb ho => zZ rfl (parts0 ) (by kernel_rfl))) ?_
          refine zA (zG 1 2 _ rfl rfl rfl rfl (fun _ _ _ _ => rfl) hLo rfl rfl rfl (by rfl) Tryd.underlying50 zL rfl (fun b G hb ho => zD rfl (HS14.get 1 rfl))) ?_
          refine zA (zH 2 _ #[.agg (FR .i64 16 (fun _ => 0)), .agg (FR .i64 16 (Y))] rfl rfl rfl (fun _ _ _ _ => rfl) hLo rfl rfl Tryd.func60 rfl rfl (fun b G hb ho => zU (zB hLo 0 rfl HS14.1 rfl (hb 0 (by rfl))) (zB hLo 1 rfl HS14.1 rfl (hb 1 (by rfl)))) (fun w hw => subR_c _ _ w Re.zero.1 hYl)) ?_
          refine zA (zI 2 _ rfl rfl rfl rfl rfl (fun _ _ _ _ => rfl) rfl rfl rfl (by rfl) zL (fun b G hb ho => zD rfl (HS14.get 1 rfl)) (fun b G hb ho => zB hLo 2 rfl HS14.1 rfl (hb 2 (by rfl)))) ?_
          exact zE
        clear hLo
        intro G a16 w16 hS hH
        have HS16 : Sl a16 34 [(2, .pointer (some ⟨g1_1, 0, none⟩)), (4, .pointer (some ⟨g2_3, 0, none⟩))] := hS
        have HH16 : Held w w16 [⟨g1_0, .i64, 16, f, 50⟩, ⟨g1_1, .i64, 16, fun _ => 0, 50⟩, ⟨g2_3, .i64, 16, subR (fun _ => 0) Y, 50⟩, ⟨g3_5, .i64, 16, mulR Y iR, 50⟩] := hH
        clear hS hH HS14 HH14
        refine then_ ?_
        refine wp_seq ?_
        have hLo : LOk [(0, 33, .val (.agg (FR .i64 16 (subR (fun _ => 0) Y)))), (2, 3, .val (.bool true))] := lok rfl rfl
        refine zJ (wE := w) (sz := 34) (n := 3) [0, 1, 3] [(2, .val (.pointer (some ⟨g1_1, 0, none⟩))), (3, .val (.bool true))] _ [⟨g1_0, none, none, .i64, 16, f, f, 50⟩, ⟨g1_1, none, some 1, .i64, 16, fun _ => 0, subR (fun _ => 0) Y, 50⟩, ⟨g2_3, none, none, .i64, 16, subR (fun _ => 0) Y, subR (fun _ => 0) Y, 50⟩, ⟨g3_5, none, none, .i64, 16, mulR Y iR, mulR Y iR, 50⟩] rfl (by rfl) HH16 rfl rfl hLo rfl HS16 (slS 0 rfl rfl (slL 1 (d := 2) rfl (trivial))) ?_ ?_
        · show ∀ i ∈ [0, 1, 2], _
          refine zA (zG 0 2 _ rfl rfl rfl rfl (fun _ _ _ _ => rfl) hLo rfl rfl rfl (by rfl) Tryd.underlying50 zL rfl (fun b G hb ho => zD rfl (HS16.get 1 rfl))) ?_
          refine zA (zI 1 _ rfl rfl rfl rfl rfl (fun _ _ _ _ => rfl) rfl rfl rfl (by rfl) zL (fun b G hb ho => zD rfl (HS16.get 0 rfl)) (fun b G hb ho => zB hLo 0 rfl HS16.1 rfl (hb 0 (by rfl)))) ?_
          refine zA (zC 1 _ rfl rfl hLo rfl rfl (fun _ _ _ _ => rfl) (fun b G w hb ho => zF (.inr rfl) (rfl))) ?_
          exact zE
        clear hLo
        intro G a17 w17 hS hH
        have HS17 : Sl a17 34 [(2, .pointer (some ⟨g1_1, 0, none⟩)), (3, .bool true)] := hS
        have HH17 : Held w w17 [⟨g1_0, .i64, 16, f, 50⟩, ⟨g1_1, .i64, 16, subR (fun _ => 0) Y, 50⟩, ⟨g2_3, .i64, 16, subR (fun _ => 0) Y, 50⟩, ⟨g3_5, .i64, 16, mulR Y iR, 50⟩] := hH
        clear hS hH HS16 HH16
        refine then_ ?_
        refine wp_ret ?_
        repeat refine yC ?_
        exact b_row2 rfl HS17.2.1 (HS17.get 0 rfl) (HS17.get 1 rfl) (HH17.row 1 rfl) Tryd.underlying50 rfl zL ⟨by rw [rtR_y hr1 hr2, hY], HH17.1⟩
theorem shr7_run (x : Int) (w : World) (p q : Operand) : (do eqGuard .shr 5 p q (.int .u8 x) (.int .u64 7); binOp .shr 5 (.int .u8 x) (.int .u64 7) : Sem Value).run Tryd.prog w = .ok (.int .u8 (x / 128)) w := by go_simp
theorem eq_run {k : IntKind} {t : TypeId} {x c : Int} {r : Bool} (h : (x == c) = r) (w : World) (p q : Operand) : (do eqGuard .eql t p q (.int k x) (.int k c); binOp .eql t (.int k x) (.int k c) : Sem Value).run Tryd.prog w = .ok (.bool r) w := by subst h; go_simp
theorem and127_run (x : Int) (w : World) (p q : Operand) : (do eqGuard .and 5 p q (.int .u8 x) (.int .u8 127); binOp .and 5 (.int .u8 x) (.int .u8 127) : Sem Value).run Tryd.prog w = .ok (.int .u8 (Go.bits .and .u8 x 127)) w := by go_simp
theorem equalB {f g : Nat → Int} (w : World) : (Op.equal 22 (.agg (FR .u8 32 f)) (.agg (FR .u8 32 g))).run Tryd.prog w = .ok (sameRow 32 f g) w := run_equal_FR Tryd.underlying22 Tryd.underlying5 (by kernel_rfl) f g w
theorem neqB_run {f g : Nat → Int} {r : Bool} (h : sameRow 32 f g = r) (w : World) (p q : Operand) : (do eqGuard .neq 22 p q (.agg (FR .u8 32 f)) (.agg (FR .u8 32 g)); binOp .neq 22 (.agg (FR .u8 32 f)) (.agg (FR .u8 32 g)) : Sem Value).run Tryd.prog w = .ok (.bool (!r)) w := by
  subst h
  unfold binOp eqGuard
  have he := equalB (f := f) (g := g)
  go_simp
theorem eqB_run {f g : Nat → Int} {r : Bool} (h : sameRow 32 f g = r) (w : World) (p q : Operand) : (do eqGuard .eql 22 p q (.agg (FR .u8 32 f)) (.agg (FR .u8 32 g)); binOp .eql 22 (.agg (FR .u8 32 f)) (.agg (FR .u8 32 g)) : Sem Value).run Tryd.prog w = .ok (.bool r) w := by
  subst h
  unfold binOp eqGuard
  have he := equalB (f := f) (g := g)
  go_simp
theorem root_r {f X : Nat → Int} {r : Bool} (hf : Lm f) (h : rOk iZ (V51 f) = r) (hX : rtE f (V51 f) = X) (w : World) : Calls Tryd.prog 52 #[.agg (FR .u64 5 f)] w fun e w' => e = .returned (.tuple #[.agg (FR .u64 5 X), .bool r]) ∧ Below w.heap.size w w' := by
  rw [← h, ← hX]; exact rootE_calls f (V51 f) w ⟨hf, rfl⟩
def yL (b : Nat → Int) : Nat → Int := upd b 31 (Go.bits .and .u8 (b 31) 127)
theorem and127 (x : Int) (h : 0 ≤ x ∧ x < 256) : Go.bits .and .u8 x 127 = x % 128 := by
  have hx : ∀ n : Fin 256, Go.bits .and .u8 (n.val : Int) 127 = (n.val : Int) % 128 := by decide +kernel
  have := hx ⟨x.toNat, by omega⟩
  simp only [Int.toNat_of_nonneg h.1] at this
  exact this
theorem lowB1_By {b : Nat → Int} (hb : By b) : By (yL b) := fun j hj => by
  unfold yL upd
  split
  · rw [and127 _ (hb 31 (by omega))]; omega
  · exact hb j hj
def dy (b : Nat → Int) : Nat → Int := carr (ofL (yL b))
theorem dy_Lm {b : Nat → Int} (hb : By b) : Lm (dy b) := lof (lowB1_By hb)
def dsq (b : Nat → Int) : Nat → Int := mulE (dy b) (dy b)
theorem dsq_Lm {b : Nat → Int} (hb : By b) : Lm (dsq b) := lmul (dy_Lm hb) (dy_Lm hb)
def dq (b : Nat → Int) : Nat → Int := mulE (subE (dsq b) (smL 1)) (invE (addE (mulE (dsq b) (carr (ofL dB))) (smL 1)))
theorem dq_Lm {b : Nat → Int} (hb : By b) : Lm (dq b) := lmul (lsub (dsq_Lm hb) (smL_Lm 1 (by omega))) (linv (ladd (lmul (dsq_Lm hb) (lof dB_By)) (smL_Lm 1 (by omega))))
def dx0 (b : Nat → Int) : Nat → Int := rtE (dq b) (V51 (dq b))
theorem dx0_Lm {b : Nat → Int} (hb : By b) : Lm (dx0 b) := (rtE_Fe (n := V51 (dq b)) ⟨dq_Lm hb, rfl⟩).1
def dsame (b : Nat → Int) : Bool := sameRow 32 (dig 256 (V51 (dy b) % PP)) (yL b)
def drt (b : Nat → Int) : Bool := rOk iZ (V51 (dq b))
def dodd (b : Nat → Int) : Bool := b 31 / 128 == 1
def dz (b : Nat → Int) : Bool := decide (V51 (dx0 b) % PP = V51 (fun _ => 0) % PP)
def decOk (b : Nat → Int) : Bool := dsame b && (drt b && !(dodd b && dz b))
def dx (b : Nat → Int) : Nat → Int := if dodd b then negE (dx0 b) else dx0 b
theorem dx_Lm {b : Nat → Int} (hb : By b) : Lm (dx b) := by unfold dx; split; exact lneg (dx0_Lm hb); exact dx0_Lm hb
theorem dx_y {b X : Nat → Int} (h : dodd b = true) (hX : dx0 b = X) : negE X = dx b := by rw [← hX]; exact (if_pos h).symm
theorem dx_n {b X : Nat → Int} (h : dodd b = false) (hX : dx0 b = X) : X = dx b := by rw [← hX]; exact (if_neg (by rw [h]; decide)).symm
def decP (b : Nat → Int) : Nat → Int := if decOk b then pt4 (dx b) (dy b) (smL 1) (mulE (dx b) (dy b)) else fun _ => 0
theorem decP_n {b : Nat → Int} (h : decOk b = false) : decP b = fun _ => 0 := if_neg (by rw [h]; decide)
theorem decP_y {b : Nat → Int} (h : decOk b = true) : decP b = pt4 (dx b) (dy b) (smL 1) (mulE (dx b) (dy b)) := if_pos h
theorem tabdec_4 : rtab .any (opsOf Tryd.f24 4) = (true, [([], []), ([0], [0]), ([], []), ([1, 2], [1, 2])]) := by kernel_rfl
theorem bitsdec_4 : zW [([], []), ([0], [0]), ([], []), ([1, 2], [1, 2])] [0, 1, 0, 7] = true := by kernel_rfl
theorem tabdec_6 : rtab .any (opsOf Tryd.f24 6) = (true, [([], []), ([], []), ([], []), ([1, 2, 0], [1, 2]), ([], []), ([], []), ([4, 0, 3, 0, 4, 5], [0, 4]), ([5, 3, 6, 0, 1, 2, 3, 4, 5, 6], [3, 5])]) := by kernel_rfl
theorem bitsdec_6 : zW [([], []), ([], []), ([], []), ([1, 2, 0], [1, 2]), ([], []), ([], []), ([4, 0, 3, 0, 4, 5], [0, 4]), ([5, 3, 6, 0, 1, 2, 3, 4, 5, 6], [3, 5])] [0, 0, 0, 7, 0, 0, 63, 127] = true := by kernel_rfl
theorem tabdec_7 : rtab .any (opsOf Tryd.f24 7) = (true, [([], []), ([], []), ([0, 1], [0, 1]), ([], []), ([], []), ([4, 2], [4]), ([3, 5, 5], [3, 5]), ([], []), ([6, 7, 6], [6, 7]), ([8, 8], [8]), ([2, 9, 9], [2, 9]), ([10, 10], [10]), ([11], [11]), ([12], [12]), ([12], [12]), ([], []), ([15, 13, 11, 0, 1, 2, 3, 4, 5, 6, 7, 8, 9, 10, 11, 12, 13, 15], [13, 15]), ([14, 16, 0, 1, 2, 3, 4, 5, 6, 7, 8, 9, 10, 11, 12, 13, 14, 15, 16], [14])]) := by kernel_rfl
theorem bitsdec_7 : zW [([], []), ([], []), ([0, 1], [0, 1]), ([], []), ([], []), ([4, 2], [4]), ([3, 5, 5], [3, 5]), ([], []), ([6, 7, 6], [6, 7]), ([8, 8], [8]), ([2, 9, 9], [2, 9]), ([10, 10], [10]), ([11], [11]), ([12], [12]), ([12], [12]), ([], []), ([15, 13, 11, 0, 1, 2, 3, 4, 5, 6, 7, 8, 9, 10, 11, 12, 13, 15], [13, 15]), ([14, 16, 0, 1, 2, 3, 4, 5, 6, 7, 8, 9, 10, 11, 12, 13, 14, 15, 16], [14])] [0, 0, 3, 0, 0, 23, 63, 0, 255, 511, 1023, 2047, 4095, 8191, 8191, 0, 49151, 131071] = true := by kernel_rfl
theorem tabdec_12 : rtab .any (opsOf Tryd.f24 12) = (true, [([], []), ([], []), ([], []), ([], []), ([], []), ([3, 4], [3, 4]), ([0, 1, 2, 5], [0, 1, 2, 5]), ([6, 5, 0, 1, 2, 3, 4, 5, 6], [6]), ([7, 0, 1, 2, 3, 4, 5, 6, 7], [])]) := by kernel_rfl
theorem bitsdec_12 : zW [([], []), ([], []), ([], []), ([], []), ([], []), ([3, 4], [3, 4]), ([0, 1, 2, 5], [0, 1, 2, 5]), ([6, 5, 0, 1, 2, 3, 4, 5, 6], [6]), ([7, 0, 1, 2, 3, 4, 5, 6, 7], [])] [0, 0, 0, 0, 0, 24, 63, 127, 255] = true := by kernel_rfl
theorem decode_pt (b : Nat → Int) (w : World) (hT : TabD w) (hb : By b) : Calls Tryd.prog 24 #[.agg (FR .u8 32 b)] w fun e w' => e = .returned (.tuple #[.agg (FR .u64 20 (decP b)), .bool (decOk b)]) ∧ Below w.heap.size w w' := by
  obtain ⟨r1, hr1⟩ : ∃ r, dsame b = r := ⟨_, rfl⟩
  obtain ⟨r2, hr2⟩ : ∃ r, drt b = r := ⟨_, rfl⟩
  obtain ⟨r3, hr3⟩ : ∃ r, dodd b = r := ⟨_, rfl⟩
  obtain ⟨r4, hr4⟩ : ∃ r, dz b = r := ⟨_, rfl⟩
  obtain ⟨X, hX⟩ : ∃ X, dx0 b = X := ⟨_, rfl⟩
  have hXl : Lm X := by rw [← hX]; exact dx0_Lm hb
  have hr5 : decide (V51 X % PP = V51 (fun _ => 0) % PP) = r4 := by rw [← hX]; exact hr4
  refine enter_ 65 Tryd.func24 rfl rfl (fun a0 hS => ?_)
  have HS0 : Sl a0 65 [(0, .agg (FR .u8 32 b))] := hS
  have HH0 : Held w w [] := Held.first w
  clear hS
  refine wp_seq ?_
  have hLo : LOk [(0, 1, .ptr 0 0), (1, 2, .ptr 1 0), (2, 3, .val (.bool false))] := lok rfl rfl
  refine zJ (wE := w) (sz := 65) (n := 3) [0, 1, 3] [(1, .ptr 0 0), (2, .ptr 1 0), (3, .val (.bool false))] _ [⟨0, some 0, none, .u8, 32, b, b, 22⟩, ⟨0, some 1, none, .u64, 20, fun _ => 0, fun _ => 0, 42⟩] rfl (by rfl) HH0 rfl rfl hLo rfl HS0 (slL 0 (d := 0) rfl (slL 1 (d := 1) rfl (slL 2 (d := 2) rfl (trivial)))) ?_ ?_
  · show ∀ i ∈ [0, 1, 2], _
    refine zA (zK 0 0 .u8 32 22 none _ _ rfl rfl (fun _ _ _ _ => rfl) rfl hLo rfl rfl rfl rfl (by rfl) (fun b G w hb ho => exec_box rfl (zD rfl (HS0.get 0 rfl)) (by kernel_rfl))) ?_
    refine zA (zK 1 1 .u64 20 42 none _ _ rfl rfl (fun _ _ _ _ => rfl) rfl hLo rfl rfl rfl rfl (by rfl) (fun b G w _ _ => by kernel_rfl)) ?_
    refine zA (zC 2 _ rfl rfl hLo rfl rfl (fun _ _ _ _ => rfl) (fun b G w hb ho => zF (.inr rfl) (rfl))) ?_
    exact zE
  clear hLo
  intro G a1 w1 hS hH
  have HS1 : Sl a1 65 [(1, .pointer (some ⟨(G 0), 0, none⟩)), (2, .pointer (some ⟨(G 1), 0, none⟩)), (3, .bool false)] := hS
  have HH1 : Held w w1 [⟨(G 0), .u8, 32, b, 22⟩, ⟨(G 1), .u64, 20, fun _ => 0, 42⟩] := hH
  clear hS hH HS0 HH0
  generalize G 0 = g1_0 at HS1 HH1
  generalize G 1 = g1_1 at HS1 HH1
  refine then_ ?_
  refine wp_seq ?_
  have hLo : LOk [(0, 10, .val (.pointer (some ⟨g1_0, 31, none⟩))), (1, 11, .val (.int .u8 ((b) 31))), (2, 12, .val (.int .u8 (b 31 / 128))), (3, 13, .val (.bool r3)), (4, 4, .val (.bool r3))] := lok rfl rfl
  refine zJ (wE := w) (sz := 65) (n := 5) [0, 1, 3, 7, 15] [(1, .val (.pointer (some ⟨g1_0, 0, none⟩))), (2, .val (.pointer (some ⟨g1_1, 0, none⟩))), (3, .val (.bool false)), (4, .val (.bool r3))] _ [⟨g1_0, none, none, .u8, 32, b, b, 22⟩, ⟨g1_1, none, none, .u64, 20, fun _ => 0, fun _ => 0, 42⟩] rfl (by rfl) HH1 rfl rfl hLo rfl HS1 (slS 0 rfl rfl (slS 1 rfl rfl (slS 2 rfl rfl (slL 4 (d := 4) rfl (trivial))))) ?_ ?_
  · show ∀ i ∈ [0, 1, 2, 3, 4], _
    refine zA (zC 0 _ rfl rfl hLo rfl rfl (fun _ _ _ _ => rfl) (fun b G w hb ho => exec_indexAddr rfl (zD rfl (HS1.get 0 rfl)) (rfl) (by kernel_rfl))) ?_
    refine zA (st_read 1 0 _ _ rfl rfl rfl hLo rfl rfl (fun _ _ _ _ => rfl) (by rfl) (by rfl) (fun b G w hb ho hr => exec_cell hr (Nat.le_of_ble_eq_true rfl) Tryd.underlying5 rfl rfl (zB hLo 0 rfl HS1.1 rfl (hb 0 (by rfl))))) ?_
    refine zA (zC 2 _ rfl rfl hLo rfl rfl (fun _ _ _ _ => rfl) (fun b G w hb ho => zV rfl (zB hLo 1 rfl HS1.1 rfl (hb 1 (by rfl))) (rfl) (shr7_run _ _ _ _))) ?_
    refine zA (zC 3 _ rfl rfl hLo rfl rfl (fun _ _ _ _ => rfl) (fun b G w hb ho => zV rfl (zB hLo 2 rfl HS1.1 rfl (hb 2 (by rfl))) (rfl) (eq_run hr3 _ _ _))) ?_
    refine zA (zC 4 _ rfl rfl hLo rfl rfl (fun _ _ _ _ => rfl) (fun b G w hb ho => zF (.inr rfl) (zB hLo 3 rfl HS1.1 rfl (hb 3 (by rfl))))) ?_
    exact zE
  clear hLo
  intro G a2 w2 hS hH
  have HS2 : Sl a2 65 [(1, .pointer (some ⟨g1_0, 0, none⟩)), (2, .pointer (some ⟨g1_1, 0, none⟩)), (3, .bool false), (4, .bool r3)] := hS
  have HH2 : Held w w2 [⟨g1_0, .u8, 32, b, 22⟩, ⟨g1_1, .u64, 20, fun _ => 0, 42⟩] := hH
  clear hS hH HS1 HH1
  refine then_ ?_
  refine wp_seq ?_
  have hLo : LOk [(0, 14, .val (.pointer (some ⟨g1_0, 31, none⟩))), (1, 15, .val (.int .u8 ((b) 31))), (2, 16, .val (.int .u8 (Go.bits .and .u8 (b 31) 127))), (3, 17, .val (.pointer (some ⟨g1_0, 31, none⟩)))] := lok rfl rfl
  refine zJ (wE := w) (sz := 65) (n := 5) [0, 1, 3, 7, 15] [(1, .val (.pointer (some ⟨g1_0, 0, none⟩))), (2, .val (.pointer (some ⟨g1_1, 0, none⟩))), (3, .val (.bool false)), (4, .val (.bool r3))] _ [⟨g1_0, none, some 4, .u8, 32, b, upd (b) 31 ((Go.bits .and .u8 (b 31) 127)), 22⟩, ⟨g1_1, none, none, .u64, 20, fun _ => 0, fun _ => 0, 42⟩] rfl (by rfl) HH2 rfl rfl hLo rfl HS2 (slS 0 rfl rfl (slS 1 rfl rfl (slS 2 rfl rfl (slS 3 rfl rfl (trivial))))) ?_ ?_
  · show ∀ i ∈ [0, 1, 2, 3, 4], _
    refine zA (zC 0 _ rfl rfl hLo rfl rfl (fun _ _ _ _ => rfl) (fun b G w hb ho => exec_indexAddr rfl (zD rfl (HS2.get 0 rfl)) (rfl) (by kernel_rfl))) ?_
    refine zA (st_read 1 0 _ _ rfl rfl rfl hLo rfl rfl (fun _ _ _ _ => rfl) (by rfl) (by rfl) (fun b G w hb ho hr => exec_cell hr (Nat.le_of_ble_eq_true rfl) Tryd.underlying5 rfl rfl (zB hLo 0 rfl HS2.1 rfl (hb 0 (by rfl))))) ?_
    refine zA (zC 2 _ rfl rfl hLo rfl rfl (fun _ _ _ _ => rfl) (fun b G w hb ho => zV rfl (zB hLo 1 rfl HS2.1 rfl (hb 1 (by rfl))) (rfl) (and127_run _ _ _ _))) ?_
    refine zA (zC 3 _ rfl rfl hLo rfl rfl (fun _ _ _ _ => rfl) (fun b G w hb ho => exec_indexAddr rfl (zD rfl (HS2.get 0 rfl)) (rfl) (by kernel_rfl))) ?_
    refine zA (st_put 0 _ rfl rfl rfl rfl (fun _ _ _ _ => rfl) rfl rfl rfl (by rfl) (fun b G w hb ho hr => exec_put1 hr (Nat.le_of_ble_eq_true rfl) Fd.info5s rfl (zB hLo 3 rfl HS2.1 rfl (hb 3 (by rfl))) (zB hLo 2 rfl HS2.1 rfl (hb 2 (by rfl))))) ?_
    exact zE
  clear hLo
  intro G a3 w3 hS hH
  have HS3 : Sl a3 65 [(1, .pointer (some ⟨g1_0, 0, none⟩)), (2, .pointer (some ⟨g1_1, 0, none⟩)), (3, .bool false), (4, .bool r3)] := hS
  have HH3 : Held w w3 [⟨g1_0, .u8, 32, yL b, 22⟩, ⟨g1_1, .u64, 20, fun _ => 0, 42⟩] := hH
  clear hS hH HS2 HH2
  refine then_ ?_
  refine wp_seq ?_
  have hLo : LOk [(0, 18, .val (.agg (FR .u8 32 (yL b)))), (1, 19, .val (.agg (FR .u64 5 (carr (ofL (yL b)))))), (2, 5, .ptr 2 0)] := lok rfl rfl
  refine zJ (wE := w) (sz := 65) (n := 4) [0, 1, 3, 7] [(1, .val (.pointer (some ⟨g1_0, 0, none⟩))), (2, .val (.pointer (some ⟨g1_1, 0, none⟩))), (3, .val (.bool false)), (4, .val (.bool r3)), (5, .ptr 2 0)] _ [⟨g1_0, none, none, .u8, 32, yL b, yL b, 22⟩, ⟨g1_1, none, none, .u64, 20, fun _ => 0, fun _ => 0, 42⟩, ⟨0, some 2, some 3, .u64, 5, fun _ => 0, carr (ofL (yL b)), 40⟩] rfl (by rfl) HH3 rfl rfl hLo rfl HS3 (slS 0 rfl rfl (slS 1 rfl rfl (slS 2 rfl rfl (slS 3 rfl rfl (slL 2 (d := 2) rfl (trivial)))))) ?_ ?_
  · show ∀ i ∈ [0, 1, 2, 3], _
    refine zA (zG 0 0 _ rfl rfl rfl rfl (fun _ _ _ _ => rfl) hLo rfl rfl rfl (by rfl) Tryd.underlying22 infoB3 rfl (fun b G hb ho => zD rfl (HS3.get 0 rfl))) ?_
    refine zA (zH 1 _ #[.agg (FR .u8 32 (yL b))] rfl rfl rfl (fun _ _ _ _ => rfl) hLo rfl rfl Tryd.func48 rfl rfl (fun b G hb ho => args1 (zB hLo 0 rfl HS3.1 rfl (hb 0 (by rfl)))) (fun w hw => Of_elem_calls _ w (lowB1_By hb))) ?_
    refine zA (zK 2 2 .u64 5 40 (some 3) _ _ rfl rfl (fun _ _ _ _ => rfl) rfl hLo rfl rfl rfl rfl (by rfl) (fun b G w _ _ => by kernel_rfl)) ?_
    refine zA (zI 2 _ rfl rfl rfl rfl rfl (fun _ _ _ _ => rfl) rfl rfl rfl (by rfl) zO (fun b G hb ho => zB hLo 2 rfl HS3.1 rfl (hb 2 (by rfl))) (fun b G hb ho => zB hLo 1 rfl HS3.1 rfl (hb 1 (by rfl)))) ?_
    exact zE
  clear hLo
  intro G a4 w4 hS hH
  have HS4 : Sl a4 65 [(1, .pointer (some ⟨g1_0, 0, none⟩)), (2, .pointer (some ⟨g1_1, 0, none⟩)), (3, .bool false), (4, .bool r3), (5, .pointer (some ⟨(G 2), 0, none⟩))] := hS
  have HH4 : Held w w4 [⟨g1_0, .u8, 32, yL b, 22⟩, ⟨g1_1, .u64, 20, fun _ => 0, 42⟩, ⟨(G 2), .u64, 5, dy b, 40⟩] := hH
  clear hS hH HS3 HH3
  generalize G 2 = g4_2 at HS4 HH4
  refine then_ ?_
  cases r1
  · skip
    refine wp_seq ?_
    refine wp_seq ?_
    have hLo : LOk [(0, 20, .val (.agg (FR .u64 5 (dy b)))), (1, 21, .val (.agg (FR .u8 32 (dig 256 (V51 (dy b) % PP))))), (2, 22, .val (.agg (FR .u8 32 (yL b)))), (3, 23, .val (.bool true))] := lok rfl rfl
    refine yK (wE := w) (sz := 65) (n := 4) (B := [0, 1, 0, 7]) [0, 1, 2, 3] [(1, .val (.pointer (some ⟨g1_0, 0, none⟩))), (2, .val (.pointer (some ⟨g1_1, 0, none⟩))), (3, .val (.bool false)), (4, .val (.bool r3)), (5, .val (.pointer (some ⟨g4_2, 0, none⟩))), (23, .val (.bool true))] _ [⟨g1_0, none, none, .u8, 32, yL b, yL b, 22⟩, ⟨g1_1, none, none, .u64, 20, fun _ => 0, fun _ => 0, 42⟩, ⟨g4_2, none, none, .u64, 5, dy b, dy b, 40⟩] (by rfl) rfl tabdec_4 bitsdec_4 (by kernel_rfl) (by kernel_rfl) HH4 rfl rfl hLo rfl HS4 (slS 0 rfl rfl (slS 1 rfl rfl (slS 2 rfl rfl (slS 3 rfl rfl (slS 4 rfl rfl (slL 3 (d := 3) rfl (trivial))))))) ?_ ?_
    · show ∀ i ∈ [0, 1, 2, 3], _
      refine zA (zG 0 2 _ rfl rfl rfl rfl (fun _ _ _ _ => rfl) hLo rfl rfl rfl (by rfl) Tryd.underlying40 zO rfl (fun b G hb ho => zD rfl (HS4.get 4 rfl))) ?_
      refine zA (zH 1 _ #[.agg (FR .u64 5 (dy b))] rfl rfl rfl (fun _ _ _ _ => rfl) hLo rfl rfl Tryd.func40 rfl rfl (fun b G hb ho => args1 (zB hLo 0 rfl HS4.1 rfl (hb 0 (by rfl)))) (fun w hw => bytes_r (dy_Lm hb) (rfl : dig 256 (V51 (dy b) % PP) = dig 256 (V51 (dy b) % PP)) w)) ?_
      refine zA (zG 2 0 _ rfl rfl rfl rfl (fun _ _ _ _ => rfl) hLo rfl rfl rfl (by rfl) Tryd.underlying22 infoB3 rfl (fun b G hb ho => zD rfl (HS4.get 0 rfl))) ?_
      refine zA (zC 3 _ rfl rfl hLo rfl rfl (fun _ _ _ _ => rfl) (fun b G w hb ho => zV rfl (zB hLo 1 rfl HS4.1 rfl (hb 1 (by rfl))) (zB hLo 2 rfl HS4.1 rfl (hb 2 (by rfl))) (neqB_run hr1 _ _ _))) ?_
      exact zE
    clear hLo
    intro G a5 w5 hS hH
    have HS5 : Sl a5 65 [(1, .pointer (some ⟨g1_0, 0, none⟩)), (2, .pointer (some ⟨g1_1, 0, none⟩)), (3, .bool false), (4, .bool r3), (5, .pointer (some ⟨g4_2, 0, none⟩)), (23, .bool true)] := hS
    have HH5 : Held w w5 [⟨g1_0, .u8, 32, yL b, 22⟩, ⟨g1_1, .u64, 20, fun _ => 0, 42⟩, ⟨g4_2, .u64, 5, dy b, 40⟩] := hH
    clear hS hH HS4 HH4
    refine then_ ?_
    refine wp_cond_true (HS5.get 5 rfl) ?_
    refine wp_seq ?_
    have hLo : LOk [(0, 24, .val (.agg (FR .u64 20 (fun _ => 0)))), (2, 3, .val (.bool false))] := lok rfl rfl
    refine zJ (wE := w) (sz := 65) (n := 3) [0, 1, 3] [(2, .val (.pointer (some ⟨g1_1, 0, none⟩))), (3, .val (.bool false))] _ [⟨g1_0, none, none, .u8, 32, yL b, yL b, 22⟩, ⟨g1_1, none, some 1, .u64, 20, fun _ => 0, fun _ => 0, 42⟩, ⟨g4_2, none, none, .u64, 5, dy b, dy b, 40⟩] rfl (by rfl) HH5 rfl rfl hLo rfl HS5 (slS 1 rfl rfl (slL 1 (d := 2) rfl (trivial))) ?_ ?_
    · show ∀ i ∈ [0, 1, 2], _
      refine zA (zC 0 _ rfl rfl hLo rfl rfl (fun _ _ _ _ => rfl) (fun b G w hb ho => zZ rfl (parts0 ) (by kernel_rfl))) ?_
      refine zA (zI 1 _ rfl rfl rfl rfl rfl (fun _ _ _ _ => rfl) rfl rfl rfl (by rfl) infoPt (fun b G hb ho => zD rfl (HS5.get 1 rfl)) (fun b G hb ho => zB hLo 0 rfl HS5.1 rfl (hb 0 (by rfl)))) ?_
      refine zA (zC 1 _ rfl rfl hLo rfl rfl (fun _ _ _ _ => rfl) (fun b G w hb ho => zF (.inr rfl) (rfl))) ?_
      exact zE
    clear hLo
    intro G a6 w6 hS hH
    have HS6 : Sl a6 65 [(2, .pointer (some ⟨g1_1, 0, none⟩)), (3, .bool false)] := hS
    have HH6 : Held w w6 [⟨g1_0, .u8, 32, yL b, 22⟩, ⟨g1_1, .u64, 20, fun _ => 0, 42⟩, ⟨g4_2, .u64, 5, dy b, 40⟩] := hH
    clear hS hH HS5 HH5
    refine then_ ?_
    refine wp_ret ?_
    repeat refine yC ?_
    exact b_row2 rfl HS6.2.1 (HS6.get 0 rfl) (HS6.get 1 rfl) (HH6.row 1 rfl) Tryd.underlying42 rfl infoPt ⟨by rw [decP_n (by unfold decOk; rw [hr1]; rfl), show decOk b = false by unfold decOk; rw [hr1]; rfl], HH6.1⟩
  · skip
    refine wp_seq ?_
    refine wp_seq ?_
    have hLo : LOk [(0, 20, .val (.agg (FR .u64 5 (dy b)))), (1, 21, .val (.agg (FR .u8 32 (dig 256 (V51 (dy b) % PP))))), (2, 22, .val (.agg (FR .u8 32 (yL b)))), (3, 23, .val (.bool false))] := lok rfl rfl
    refine yK (wE := w) (sz := 65) (n := 4) (B := [0, 1, 0, 7]) [0, 1, 2, 3] [(1, .val (.pointer (some ⟨g1_0, 0, none⟩))), (2, .val (.pointer (some ⟨g1_1, 0, none⟩))), (3, .val (.bool false)), (4, .val (.bool r3)), (5, .val (.pointer (some ⟨g4_2, 0, none⟩))), (23, .val (.bool false))] _ [⟨g1_0, none, none, .u8, 32, yL b, yL b, 22⟩, ⟨g1_1, none, none, .u64, 20, fun _ => 0, fun _ => 0, 42⟩, ⟨g4_2, none, none, .u64, 5, dy b, dy b, 40⟩] (by rfl) rfl tabdec_4 bitsdec_4 (by kernel_rfl) (by kernel_rfl) HH4 rfl rfl hLo rfl HS4 (slS 0 rfl rfl (slS 1 rfl rfl (slS 2 rfl rfl (slS 3 rfl rfl (slS 4 rfl rfl (slL 3 (d := 3) rfl (trivial))))))) ?_ ?_
    · show ∀ i ∈ [0, 1, 2, 3], _
      refine zA (zG 0 2 _ rfl rfl rfl rfl (fun _ _ _ _ => rfl) hLo rfl rfl rfl (by rfl) Tryd.underlying40 zO rfl (fun b G hb ho => zD rfl (HS4.get 4 rfl))) ?_
      refine zA (zH 1 _ #[.agg (FR .u64 5 (dy b))] rfl rfl rfl (fun _ _ _ _ => rfl) hLo rfl rfl Tryd.func40 rfl rfl (fun b G hb ho => args1 (zB hLo 0 rfl HS4.1 rfl (hb 0 (by rfl)))) (fun w hw => bytes_r (dy_Lm hb) (rfl : dig 256 (V51 (dy b) % PP) = dig 256 (V51 (dy b) % PP)) w)) ?_
      refine zA (zG 2 0 _ rfl rfl rfl rfl (fun _ _ _ _ => rfl) hLo rfl rfl rfl (by rfl) Tryd.underlying22 infoB3 rfl (fun b G hb ho => zD rfl (HS4.get 0 rfl))) ?_
      refine zA (zC 3 _ rfl rfl hLo rfl rfl (fun _ _ _ _ => rfl) (fun b G w hb ho => zV rfl (zB hLo 1 rfl HS4.1 rfl (hb 1 (by rfl))) (zB hLo 2 rfl HS4.1 rfl (hb 2 (by rfl))) (neqB_run hr1 _ _ _))) ?_
      exact zE
    clear hLo
    intro G a7 w7 hS hH
    have HS7 : Sl a7 65 [(1, .pointer (some ⟨g1_0, 0, none⟩)), (2, .pointer (some ⟨g1_1, 0, none⟩)), (3, .bool false), (4, .bool r3), (5, .pointer (some ⟨g4_2, 0, none⟩)), (23, .bool false)] := hS
    have HH7 : Held w w7 [⟨g1_0, .u8, 32, yL b, 22⟩, ⟨g1_1, .u64, 20, fun _ => 0, 42⟩, ⟨g4_2, .u64, 5, dy b, 40⟩] := hH
    clear hS hH HS4 HH4
    refine then_ ?_
    refine wp_cond_false (HS7.get 5 rfl) ?_
    refine wp_skip ?_
    refine then_ ?_
    refine wp_seq ?_
    have hLo : LOk [(0, 25, .val (.agg (FR .u64 5 (smL 1)))), (1, 26, .val (.agg (FR .u64 5 (dy b)))), (2, 27, .val (.agg (FR .u64 5 (dy b)))), (3, 28, .val (.agg (FR .u64 5 (mulE (dy b) (dy b))))), (4, 6, .ptr 4 0), (5, 7, .ptr 5 0)] := lok rfl rfl
    refine yK (wE := w) (sz := 65) (n := 8) (B := [0, 0, 0, 7, 0, 0, 63, 127]) [0, 1, 2, 3, 4, 5, 6, 7] [(2, .val (.pointer (some ⟨g1_1, 0, none⟩))), (4, .val (.bool r3)), (5, .val (.pointer (some ⟨g4_2, 0, none⟩))), (6, .ptr 4 0), (7, .ptr 5 0)] _ [⟨g1_0, none, none, .u8, 32, yL b, yL b, 22⟩, ⟨g1_1, none, none, .u64, 20, fun _ => 0, fun _ => 0, 42⟩, ⟨g4_2, none, none, .u64, 5, dy b, dy b, 40⟩, ⟨0, some 4, some 6, .u64, 5, fun _ => 0, smL 1, 40⟩, ⟨0, some 5, some 7, .u64, 5, fun _ => 0, mulE (dy b) (dy b), 40⟩] (by rfl) rfl tabdec_6 bitsdec_6 (by kernel_rfl) (by kernel_rfl) HH7 rfl rfl hLo rfl HS7 (slS 1 rfl rfl (slS 3 rfl rfl (slS 4 rfl rfl (slL 4 (d := 4) rfl (slL 5 (d := 5) rfl (trivial)))))) ?_ ?_
    · show ∀ i ∈ [0, 1, 2, 3, 4, 5, 6, 7], _
      refine zA (zH 0 _ #[.int .u32 1] rfl rfl rfl (fun _ _ _ _ => rfl) hLo rfl rfl Tryd.func49 rfl rfl (fun b G hb ho => args1 (rfl)) (fun w hw => Fd.small_elem_calls 1 w (by omega))) ?_
      refine zA (zG 1 2 _ rfl rfl rfl rfl (fun _ _ _ _ => rfl) hLo rfl rfl rfl (by rfl) Tryd.underlying40 zO rfl (fun b G hb ho => zD rfl (HS7.get 4 rfl))) ?_
      refine zA (zG 2 2 _ rfl rfl rfl rfl (fun _ _ _ _ => rfl) hLo rfl rfl rfl (by rfl) Tryd.underlying40 zO rfl (fun b G hb ho => zD rfl (HS7.get 4 rfl))) ?_
      refine zA (zH 3 _ #[.agg (FR .u64 5 (dy b)), .agg (FR .u64 5 (dy b))] rfl rfl rfl (fun _ _ _ _ => rfl) hLo rfl rfl Tryd.func39 rfl rfl (fun b G hb ho => zU (zB hLo 1 rfl HS7.1 rfl (hb 1 (by rfl))) (zB hLo 2 rfl HS7.1 rfl (hb 2 (by rfl)))) (fun w hw => zS _ _ w (dy_Lm hb) (dy_Lm hb))) ?_
      refine zA (zK 4 3 .u64 5 40 (some 6) _ _ rfl rfl (fun _ _ _ _ => rfl) rfl hLo rfl rfl rfl rfl (by rfl) (fun b G w _ _ => by kernel_rfl)) ?_
      refine zA (zK 5 4 .u64 5 40 (some 7) _ _ rfl rfl (fun _ _ _ _ => rfl) rfl hLo rfl rfl rfl rfl (by rfl) (fun b G w _ _ => by kernel_rfl)) ?_
      refine zA (zI 3 _ rfl rfl rfl rfl rfl (fun _ _ _ _ => rfl) rfl rfl rfl (by rfl) zO (fun b G hb ho => zB hLo 4 rfl HS7.1 rfl (hb 4 (by rfl))) (fun b G hb ho => zB hLo 0 rfl HS7.1 rfl (hb 0 (by rfl)))) ?_
      refine zA (zI 4 _ rfl rfl rfl rfl rfl (fun _ _ _ _ => rfl) rfl rfl rfl (by rfl) zO (fun b G hb ho => zB hLo 5 rfl HS7.1 rfl (hb 5 (by rfl))) (fun b G hb ho => zB hLo 3 rfl HS7.1 rfl (hb 3 (by rfl)))) ?_
      exact zE
    clear hLo
    intro G a8 w8 hS hH
    have HS8 : Sl a8 65 [(2, .pointer (some ⟨g1_1, 0, none⟩)), (4, .bool r3), (5, .pointer (some ⟨g4_2, 0, none⟩)), (6, .pointer (some ⟨(G 4), 0, none⟩)), (7, .pointer (some ⟨(G 5), 0, none⟩))] := hS
    have HH8 : Held w w8 [⟨g1_0, .u8, 32, yL b, 22⟩, ⟨g1_1, .u64, 20, fun _ => 0, 42⟩, ⟨g4_2, .u64, 5, dy b, 40⟩, ⟨(G 4), .u64, 5, smL 1, 40⟩, ⟨(G 5), .u64, 5, dsq b, 40⟩] := hH
    clear hS hH HS7 HH7
    generalize G 4 = g8_4 at HS8 HH8
    generalize G 5 = g8_5 at HS8 HH8
    refine then_ ?_
    refine wp_seq ?_
    have hLo : LOk [(0, 30, .val (.agg (FR .u64 5 (dsq b)))), (1, 31, .val (.agg (FR .u64 5 (smL 1)))), (2, 32, .val (.agg (FR .u64 5 (subE (dsq b) (smL 1))))), (3, 33, .val (.agg (FR .u64 5 (dsq b)))), (4, 34, .val (.agg (FR .u8 32 (dB)))), (5, 35, .val (.agg (FR .u64 5 (carr (ofL (dB)))))), (6, 36, .val (.agg (FR .u64 5 (mulE (dsq b) (carr (ofL (dB))))))), (7, 37, .val (.agg (FR .u64 5 (smL 1)))), (8, 38, .val (.agg (FR .u64 5 (addE (mulE (dsq b) (carr (ofL (dB)))) (smL 1))))), (9, 39, .val (.agg (FR .u64 5 (invE (addE (mulE (dsq b) (carr (ofL (dB)))) (smL 1)))))), (10, 40, .val (.agg (FR .u64 5 (mulE (subE (dsq b) (smL 1)) (invE (addE (mulE (dsq b) (carr (ofL (dB)))) (smL 1))))))), (11, 41, .val (.tuple #[.agg (FR .u64 5 (X)), .bool r2])), (12, 29, .val (.tuple #[.agg (FR .u64 5 (X)), .bool r2])), (13, 42, .val (.agg (FR .u64 5 (X)))), (14, 43, .val (.bool r2)), (15, 8, .ptr 15 0), (17, 9, .val (.bool r2))] := lok rfl rfl
    refine yK (wE := w) (sz := 65) (n := 18) (B := [0, 0, 3, 0, 0, 23, 63, 0, 255, 511, 1023, 2047, 4095, 8191, 8191, 0, 49151, 131071]) [0, 1, 2, 3, 4, 5, 6, 7, 8, 9, 10, 11, 12, 13, 14, 15, 16, 17] [(2, .val (.pointer (some ⟨g1_1, 0, none⟩))), (4, .val (.bool r3)), (5, .val (.pointer (some ⟨g4_2, 0, none⟩))), (6, .val (.pointer (some ⟨g8_4, 0, none⟩))), (8, .ptr 15 0), (9, .val (.bool r2))] _ [⟨g1_0, none, none, .u8, 32, yL b, yL b, 22⟩, ⟨g1_1, none, none, .u64, 20, fun _ => 0, fun _ => 0, 42⟩, ⟨g4_2, none, none, .u64, 5, dy b, dy b, 40⟩, ⟨g8_4, none, none, .u64, 5, smL 1, smL 1, 40⟩, ⟨g8_5, none, none, .u64, 5, dsq b, dsq b, 40⟩, ⟨0, some 15, some 16, .u64, 5, fun _ => 0, X, 40⟩] (by rfl) rfl tabdec_7 bitsdec_7 (by kernel_rfl) (by kernel_rfl) HH8 rfl rfl hLo rfl HS8 (slS 0 rfl rfl (slS 1 rfl rfl (slS 2 rfl rfl (slS 3 rfl rfl (slL 15 (d := 15) rfl (slL 16 (d := 17) rfl (trivial))))))) ?_ ?_
    · show ∀ i ∈ [0, 1, 2, 3, 4, 5, 6, 7, 8, 9, 10, 11, 12, 13, 14, 15, 16, 17], _
      refine zA (zG 0 4 _ rfl rfl rfl rfl (fun _ _ _ _ => rfl) hLo rfl rfl rfl (by rfl) Tryd.underlying40 zO rfl (fun b G hb ho => zD rfl (HS8.get 4 rfl))) ?_
      refine zA (zG 1 3 _ rfl rfl rfl rfl (fun _ _ _ _ => rfl) hLo rfl rfl rfl (by rfl) Tryd.underlying40 zO rfl (fun b G hb ho => zD rfl (HS8.get 3 rfl))) ?_
      refine zA (zH 2 _ #[.agg (FR .u64 5 (dsq b)), .agg (FR .u64 5 (smL 1))] rfl rfl rfl (fun _ _ _ _ => rfl) hLo rfl rfl Tryd.func50 rfl rfl (fun b G hb ho => zU (zB hLo 0 rfl HS8.1 rfl (hb 0 (by rfl))) (zB hLo 1 rfl HS8.1 rfl (hb 1 (by rfl)))) (fun w hw => subE_c _ _ w (dsq_Lm hb) (smL_Lm 1 (by omega)))) ?_
      refine zA (zG 3 4 _ rfl rfl rfl rfl (fun _ _ _ _ => rfl) hLo rfl rfl rfl (by rfl) Tryd.underlying40 zO rfl (fun b G hb ho => zD rfl (HS8.get 4 rfl))) ?_
      refine zA (st_table 4 rfl rfl rfl (fun _ _ _ _ => rfl) hLo rfl rfl Tryd.underlying22 infoB3 rfl (fun w' hb => hT.at w' hb) rfl) ?_
      refine zA (zH 5 _ #[.agg (FR .u8 32 (dB))] rfl rfl rfl (fun _ _ _ _ => rfl) hLo rfl rfl Tryd.func48 rfl rfl (fun b G hb ho => args1 (zB hLo 4 rfl HS8.1 rfl (hb 4 (by rfl)))) (fun w hw => Of_elem_calls _ w dB_By)) ?_
      refine zA (zH 6 _ #[.agg (FR .u64 5 (dsq b)), .agg (FR .u64 5 (carr (ofL (dB))))] rfl rfl rfl (fun _ _ _ _ => rfl) hLo rfl rfl Tryd.func39 rfl rfl (fun b G hb ho => zU (zB hLo 3 rfl HS8.1 rfl (hb 3 (by rfl))) (zB hLo 5 rfl HS8.1 rfl (hb 5 (by rfl)))) (fun w hw => zS _ _ w (dsq_Lm hb) (lof dB_By))) ?_
      refine zA (zG 7 3 _ rfl rfl rfl rfl (fun _ _ _ _ => rfl) hLo rfl rfl rfl (by rfl) Tryd.underlying40 zO rfl (fun b G hb ho => zD rfl (HS8.get 3 rfl))) ?_
      refine zA (zH 8 _ #[.agg (FR .u64 5 (mulE (dsq b) (carr (ofL (dB))))), .agg (FR .u64 5 (smL 1))] rfl rfl rfl (fun _ _ _ _ => rfl) hLo rfl rfl Tryd.func51 rfl rfl (fun b G hb ho => zU (zB hLo 6 rfl HS8.1 rfl (hb 6 (by rfl))) (zB hLo 7 rfl HS8.1 rfl (hb 7 (by rfl)))) (fun w hw => addE_c _ _ w (lmul (dsq_Lm hb) (lof dB_By)) (smL_Lm 1 (by omega)))) ?_
      refine zA (zH 9 _ #[.agg (FR .u64 5 (addE (mulE (dsq b) (carr (ofL (dB)))) (smL 1)))] rfl rfl rfl (fun _ _ _ _ => rfl) hLo rfl rfl Tryd.func38 rfl rfl (fun b G hb ho => args1 (zB hLo 8 rfl HS8.1 rfl (hb 8 (by rfl)))) (fun w hw => invE_calls _ w (ladd (lmul (dsq_Lm hb) (lof dB_By)) (smL_Lm 1 (by omega))))) ?_
      refine zA (zH 10 _ #[.agg (FR .u64 5 (subE (dsq b) (smL 1))), .agg (FR .u64 5 (invE (addE (mulE (dsq b) (carr (ofL (dB)))) (smL 1))))] rfl rfl rfl (fun _ _ _ _ => rfl) hLo rfl rfl Tryd.func39 rfl rfl (fun b G hb ho => zU (zB hLo 2 rfl HS8.1 rfl (hb 2 (by rfl))) (zB hLo 9 rfl HS8.1 rfl (hb 9 (by rfl)))) (fun w hw => zS _ _ w (lsub (dsq_Lm hb) (smL_Lm 1 (by omega))) (linv (ladd (lmul (dsq_Lm hb) (lof dB_By)) (smL_Lm 1 (by omega)))))) ?_
      refine zA (zH 11 _ #[.agg (FR .u64 5 (mulE (subE (dsq b) (smL 1)) (invE (addE (mulE (dsq b) (carr (ofL (dB)))) (smL 1)))))] rfl rfl rfl (fun _ _ _ _ => rfl) hLo rfl rfl Tryd.func52 rfl rfl (fun b G hb ho => args1 (zB hLo 10 rfl HS8.1 rfl (hb 10 (by rfl)))) (fun w hw => root_r (dq_Lm hb) hr2 hX w)) ?_
      refine zA (zC 12 _ rfl rfl hLo rfl rfl (fun _ _ _ _ => rfl) (fun b G w hb ho => zF (.inl rfl) (zB hLo 11 rfl HS8.1 rfl (hb 11 (by rfl))))) ?_
      refine zA (zC 13 _ rfl rfl hLo rfl rfl (fun _ _ _ _ => rfl) (fun b G w hb ho => exec_extract rfl (zB hLo 12 rfl HS8.1 rfl (hb 12 (by rfl))) (by rfl))) ?_
      refine zA (zC 14 _ rfl rfl hLo rfl rfl (fun _ _ _ _ => rfl) (fun b G w hb ho => exec_extract rfl (zB hLo 12 rfl HS8.1 rfl (hb 12 (by rfl))) (by rfl))) ?_
      refine zA (zK 15 5 .u64 5 40 (some 16) _ _ rfl rfl (fun _ _ _ _ => rfl) rfl hLo rfl rfl rfl rfl (by rfl) (fun b G w _ _ => by kernel_rfl)) ?_
      refine zA (zI 5 _ rfl rfl rfl rfl rfl (fun _ _ _ _ => rfl) rfl rfl rfl (by rfl) zO (fun b G hb ho => zB hLo 15 rfl HS8.1 rfl (hb 15 (by rfl))) (fun b G hb ho => zB hLo 13 rfl HS8.1 rfl (hb 13 (by rfl)))) ?_
      refine zA (zC 16 _ rfl rfl hLo rfl rfl (fun _ _ _ _ => rfl) (fun b G w hb ho => zF (.inr rfl) (zB hLo 14 rfl HS8.1 rfl (hb 14 (by rfl))))) ?_
      exact zE
    clear hLo
    intro G a9 w9 hS hH
    have HS9 : Sl a9 65 [(2, .pointer (some ⟨g1_1, 0, none⟩)), (4, .bool r3), (5, .pointer (some ⟨g4_2, 0, none⟩)), (6, .pointer (some ⟨g8_4, 0, none⟩)), (8, .pointer (some ⟨(G 15), 0, none⟩)), (9, .bool r2)] := hS
    have HH9 : Held w w9 [⟨g1_0, .u8, 32, yL b, 22⟩, ⟨g1_1, .u64, 20, fun _ => 0, 42⟩, ⟨g4_2, .u64, 5, dy b, 40⟩, ⟨g8_4, .u64, 5, smL 1, 40⟩, ⟨g8_5, .u64, 5, dsq b, 40⟩, ⟨(G 15), .u64, 5, X, 40⟩] := hH
    clear hS hH HS8 HH8
    generalize G 15 = g9_15 at HS9 HH9
    refine then_ ?_
    cases r2
    · skip
      refine wp_seq ?_
      refine wp_seq ?_
      have hLo : LOk [(0, 44, .val (.bool false)), (1, 45, .val (.bool true)), (2, 46, .val (.bool true)), (3, 47, .val (undef)), (4, 48, .val (undef)), (5, 49, .val (undef)), (6, 50, .val (undef)), (7, 51, .val (undef)), (8, 52, .val (undef)), (9, 53, .val (.bool true))] := lok rfl rfl
      refine zJ (wE := w) (sz := 65) (n := 10) [0, 1, 3, 7, 15, 31, 63, 127, 255, 511] [(2, .val (.pointer (some ⟨g1_1, 0, none⟩))), (53, .val (.bool true))] _ [⟨g1_0, none, none, .u8, 32, yL b, yL b, 22⟩, ⟨g1_1, none, none, .u64, 20, fun _ => 0, fun _ => 0, 42⟩, ⟨g4_2, none, none, .u64, 5, dy b, dy b, 40⟩, ⟨g8_4, none, none, .u64, 5, smL 1, smL 1, 40⟩, ⟨g8_5, none, none, .u64, 5, dsq b, dsq b, 40⟩, ⟨g9_15, none, none, .u64, 5, X, X, 40⟩] rfl (by rfl) HH9 rfl rfl hLo rfl HS9 (slS 0 rfl rfl (slL 9 (d := 9) rfl (trivial))) ?_ ?_
      · show ∀ i ∈ [0, 1, 2, 3, 4, 5, 6, 7, 8, 9], _
        refine zA (zC 0 _ rfl rfl hLo rfl rfl (fun _ _ _ _ => rfl) (fun b G w hb ho => zF (.inl rfl) (zD rfl (HS9.get 5 rfl)))) ?_
        refine zA (zC 1 _ rfl rfl hLo rfl rfl (fun _ _ _ _ => rfl) (fun b G w hb ho => exec_un rfl (zB hLo 0 rfl HS9.1 rfl (hb 0 (by rfl))) (by rfl))) ?_
        refine zA (zC 2 _ rfl rfl hLo rfl rfl (fun _ _ _ _ => rfl) (fun b G w hb ho => zF (.inl rfl) (zB hLo 1 rfl HS9.1 rfl (hb 1 (by rfl))))) ?_
        refine zA (st_skip 3 rfl rfl hLo rfl rfl (fun b G hb ho => zN rfl rfl rfl HS9.1 rfl (zB hLo 2 rfl HS9.1 rfl (hb 2 (by rfl))) rfl)) ?_
        refine zA (st_skip 4 rfl rfl hLo rfl rfl (fun b G hb ho => zN rfl rfl rfl HS9.1 rfl (zB hLo 2 rfl HS9.1 rfl (hb 2 (by rfl))) rfl)) ?_
        refine zA (st_skip 5 rfl rfl hLo rfl rfl (fun b G hb ho => wanted_un rfl rfl rfl HS9.1 rfl (zB hLo 4 rfl HS9.1 rfl (hb 4 (by rfl))))) ?_
        refine zA (st_skip 6 rfl rfl hLo rfl rfl (fun b G hb ho => wanted_un rfl rfl rfl HS9.1 rfl (zB hLo 4 rfl HS9.1 rfl (hb 4 (by rfl))))) ?_
        refine zA (st_skip 7 rfl rfl hLo rfl rfl (fun b G hb ho => wanted_un rfl rfl rfl HS9.1 rfl (zB hLo 4 rfl HS9.1 rfl (hb 4 (by rfl))))) ?_
        refine zA (st_skip 8 rfl rfl hLo rfl rfl (fun b G hb ho => zN rfl rfl rfl HS9.1 rfl (zB hLo 2 rfl HS9.1 rfl (hb 2 (by rfl))) rfl)) ?_
        refine zA (zC 9 _ rfl rfl hLo rfl rfl (fun _ _ _ _ => rfl) (fun b G w hb ho => exec_pick rfl (zB hLo 2 rfl HS9.1 rfl (hb 2 (by rfl))) (rfl))) ?_
        exact zE
      clear hLo
      intro G a10 w10 hS hH
      have HS10 : Sl a10 65 [(2, .pointer (some ⟨g1_1, 0, none⟩)), (53, .bool true)] := hS
      have HH10 : Held w w10 [⟨g1_0, .u8, 32, yL b, 22⟩, ⟨g1_1, .u64, 20, fun _ => 0, 42⟩, ⟨g4_2, .u64, 5, dy b, 40⟩, ⟨g8_4, .u64, 5, smL 1, 40⟩, ⟨g8_5, .u64, 5, dsq b, 40⟩, ⟨g9_15, .u64, 5, X, 40⟩] := hH
      clear hS hH HS9 HH9
      refine then_ ?_
      refine wp_cond_true (HS10.get 1 rfl) ?_
      refine wp_seq ?_
      have hLo : LOk [(0, 54, .val (.agg (FR .u64 20 (fun _ => 0)))), (2, 3, .val (.bool false))] := lok rfl rfl
      refine zJ (wE := w) (sz := 65) (n := 3) [0, 1, 3] [(2, .val (.pointer (some ⟨g1_1, 0, none⟩))), (3, .val (.bool false))] _ [⟨g1_0, none, none, .u8, 32, yL b, yL b, 22⟩, ⟨g1_1, none, some 1, .u64, 20, fun _ => 0, fun _ => 0, 42⟩, ⟨g4_2, none, none, .u64, 5, dy b, dy b, 40⟩, ⟨g8_4, none, none, .u64, 5, smL 1, smL 1, 40⟩, ⟨g8_5, none, none, .u64, 5, dsq b, dsq b, 40⟩, ⟨g9_15, none, none, .u64, 5, X, X, 40⟩] rfl (by rfl) HH10 rfl rfl hLo rfl HS10 (slS 0 rfl rfl (slL 1 (d := 2) rfl (trivial))) ?_ ?_
      · show ∀ i ∈ [0, 1, 2], _
        refine zA (zC 0 _ rfl rfl hLo rfl rfl (fun _ _ _ _ => rfl) (fun b G w hb ho => zZ rfl (parts0 ) (by kernel_rfl))) ?_
        refine zA (zI 1 _ rfl rfl rfl rfl rfl (fun _ _ _ _ => rfl) rfl rfl rfl (by rfl) infoPt (fun b G hb ho => zD rfl (HS10.get 0 rfl)) (fun b G hb ho => zB hLo 0 rfl HS10.1 rfl (hb 0 (by rfl)))) ?_
        refine zA (zC 1 _ rfl rfl hLo rfl rfl (fun _ _ _ _ => rfl) (fun b G w hb ho => zF (.inr rfl) (rfl))) ?_
        exact zE
      clear hLo
      intro G a11 w11 hS hH
      have HS11 : Sl a11 65 [(2, .pointer (some ⟨g1_1, 0, none⟩)), (3, .bool false)] := hS
      have HH11 : Held w w11 [⟨g1_0, .u8, 32, yL b, 22⟩, ⟨g1_1, .u64, 20, fun _ => 0, 42⟩, ⟨g4_2, .u64, 5, dy b, 40⟩, ⟨g8_4, .u64, 5, smL 1, 40⟩, ⟨g8_5, .u64, 5, dsq b, 40⟩, ⟨g9_15, .u64, 5, X, 40⟩] := hH
      clear hS hH HS10 HH10
      refine then_ ?_
      refine wp_ret ?_
      repeat refine yC ?_
      exact b_row2 rfl HS11.2.1 (HS11.get 0 rfl) (HS11.get 1 rfl) (HH11.row 1 rfl) Tryd.underlying42 rfl infoPt ⟨by rw [decP_n (by unfold decOk; rw [hr1, hr2]; rfl), show decOk b = false by unfold decOk; rw [hr1, hr2]; rfl], HH11.1⟩
    · skip
      cases r3
      · skip
        refine wp_seq ?_
        refine wp_seq ?_
        have hLo : LOk [(0, 44, .val (.bool true)), (1, 45, .val (.bool false)), (2, 46, .val (.bool false)), (3, 47, .val (.bool false)), (4, 48, .val (.bool false)), (5, 49, .val (undef)), (6, 50, .val (undef)), (7, 51, .val (undef)), (8, 52, .val (.bool false)), (9, 53, .val (.bool false))] := lok rfl rfl
        refine zJ (wE := w) (sz := 65) (n := 10) [0, 1, 3, 7, 15, 31, 63, 127, 255, 511] [(2, .val (.pointer (some ⟨g1_1, 0, none⟩))), (4, .val (.bool false)), (5, .val (.pointer (some ⟨g4_2, 0, none⟩))), (6, .val (.pointer (some ⟨g8_4, 0, none⟩))), (8, .val (.pointer (some ⟨g9_15, 0, none⟩))), (53, .val (.bool false))] _ [⟨g1_0, none, none, .u8, 32, yL b, yL b, 22⟩, ⟨g1_1, none, none, .u64, 20, fun _ => 0, fun _ => 0, 42⟩, ⟨g4_2, none, none, .u64, 5, dy b, dy b, 40⟩, ⟨g8_4, none, none, .u64, 5, smL 1, smL 1, 40⟩, ⟨g8_5, none, none, .u64, 5, dsq b, dsq b, 40⟩, ⟨g9_15, none, none, .u64, 5, X, X, 40⟩] rfl (by rfl) HH9 rfl rfl hLo rfl HS9 (slS 0 rfl rfl (slS 1 rfl rfl (slS 2 rfl rfl (slS 3 rfl rfl (slS 4 rfl rfl (slL 9 (d := 9) rfl (trivial))))))) ?_ ?_
        · show ∀ i ∈ [0, 1, 2, 3, 4, 5, 6, 7, 8, 9], _
          refine zA (zC 0 _ rfl rfl hLo rfl rfl (fun _ _ _ _ => rfl) (fun b G w hb ho => zF (.inl rfl) (zD rfl (HS9.get 5 rfl)))) ?_
          refine zA (zC 1 _ rfl rfl hLo rfl rfl (fun _ _ _ _ => rfl) (fun b G w hb ho => exec_un rfl (zB hLo 0 rfl HS9.1 rfl (hb 0 (by rfl))) (by rfl))) ?_
          refine zA (zC 2 _ rfl rfl hLo rfl rfl (fun _ _ _ _ => rfl) (fun b G w hb ho => zF (.inl rfl) (zB hLo 1 rfl HS9.1 rfl (hb 1 (by rfl))))) ?_
          refine zA (zC 3 _ rfl rfl hLo rfl rfl (fun b G hb ho => zN rfl rfl rfl HS9.1 rfl (zB hLo 2 rfl HS9.1 rfl (hb 2 (by rfl))) rfl) (fun b G w hb ho => zF (.inl rfl) (zD rfl (HS9.get 1 rfl)))) ?_
          refine zA (zC 4 _ rfl rfl hLo rfl rfl (fun b G hb ho => zN rfl rfl rfl HS9.1 rfl (zB hLo 2 rfl HS9.1 rfl (hb 2 (by rfl))) rfl) (fun b G w hb ho => zF (.inl rfl) (zB hLo 3 rfl HS9.1 rfl (hb 3 (by rfl))))) ?_
          refine zA (st_skip 5 rfl rfl hLo rfl rfl (fun b G hb ho => zN rfl rfl rfl HS9.1 rfl (zB hLo 4 rfl HS9.1 rfl (hb 4 (by rfl))) rfl)) ?_
          refine zA (st_skip 6 rfl rfl hLo rfl rfl (fun b G hb ho => zN rfl rfl rfl HS9.1 rfl (zB hLo 4 rfl HS9.1 rfl (hb 4 (by rfl))) rfl)) ?_
          refine zA (st_skip 7 rfl rfl hLo rfl rfl (fun b G hb ho => zN rfl rfl rfl HS9.1 rfl (zB hLo 4 rfl HS9.1 rfl (hb 4 (by rfl))) rfl)) ?_
          refine zA (zC 8 _ rfl rfl hLo rfl rfl (fun b G hb ho => zN rfl rfl rfl HS9.1 rfl (zB hLo 2 rfl HS9.1 rfl (hb 2 (by rfl))) rfl) (fun b G w hb ho => exec_pick rfl (zB hLo 4 rfl HS9.1 rfl (hb 4 (by rfl))) (rfl))) ?_
          refine zA (zC 9 _ rfl rfl hLo rfl rfl (fun _ _ _ _ => rfl) (fun b G w hb ho => exec_pick rfl (zB hLo 2 rfl HS9.1 rfl (hb 2 (by rfl))) (zB hLo 8 rfl HS9.1 rfl (hb 8 (by rfl))))) ?_
          exact zE
        clear hLo
        intro G a12 w12 hS hH
        have HS12 : Sl a12 65 [(2, .pointer (some ⟨g1_1, 0, none⟩)), (4, .bool false), (5, .pointer (some ⟨g4_2, 0, none⟩)), (6, .pointer (some ⟨g8_4, 0, none⟩)), (8, .pointer (some ⟨g9_15, 0, none⟩)), (53, .bool false)] := hS
        have HH12 : Held w w12 [⟨g1_0, .u8, 32, yL b, 22⟩, ⟨g1_1, .u64, 20, fun _ => 0, 42⟩, ⟨g4_2, .u64, 5, dy b, 40⟩, ⟨g8_4, .u64, 5, smL 1, 40⟩, ⟨g8_5, .u64, 5, dsq b, 40⟩, ⟨g9_15, .u64, 5, X, 40⟩] := hH
        clear hS hH HS9 HH9
        refine then_ ?_
        refine wp_cond_false (HS12.get 5 rfl) ?_
        refine wp_skip ?_
        refine then_ ?_
        refine wp_seq ?_
        refine wp_seq ?_
        have hLo : LOk [(0, 55, .val (.bool false))] := lok rfl rfl
        refine zJ (wE := w) (sz := 65) (n := 1) [0] [(2, .val (.pointer (some ⟨g1_1, 0, none⟩))), (5, .val (.pointer (some ⟨g4_2, 0, none⟩))), (6, .val (.pointer (some ⟨g8_4, 0, none⟩))), (8, .val (.pointer (some ⟨g9_15, 0, none⟩))), (55, .val (.bool false))] _ [⟨g1_0, none, none, .u8, 32, yL b, yL b, 22⟩, ⟨g1_1, none, none, .u64, 20, fun _ => 0, fun _ => 0, 42⟩, ⟨g4_2, none, none, .u64, 5, dy b, dy b, 40⟩, ⟨g8_4, none, none, .u64, 5, smL 1, smL 1, 40⟩, ⟨g8_5, none, none, .u64, 5, dsq b, dsq b, 40⟩, ⟨g9_15, none, none, .u64, 5, X, X, 40⟩] rfl (by rfl) HH12 rfl rfl hLo rfl HS12 (slS 0 rfl rfl (slS 2 rfl rfl (slS 3 rfl rfl (slS 4 rfl rfl (slL 0 (d := 0) rfl (trivial)))))) ?_ ?_
        · show ∀ i ∈ [0], _
          refine zA (zC 0 _ rfl rfl hLo rfl rfl (fun _ _ _ _ => rfl) (fun b G w hb ho => zF (.inl rfl) (zD rfl (HS12.get 1 rfl)))) ?_
          exact zE
        clear hLo
        intro G a13 w13 hS hH
        have HS13 : Sl a13 65 [(2, .pointer (some ⟨g1_1, 0, none⟩)), (5, .pointer (some ⟨g4_2, 0, none⟩)), (6, .pointer (some ⟨g8_4, 0, none⟩)), (8, .pointer (some ⟨g9_15, 0, none⟩)), (55, .bool false)] := hS
        have HH13 : Held w w13 [⟨g1_0, .u8, 32, yL b, 22⟩, ⟨g1_1, .u64, 20, fun _ => 0, 42⟩, ⟨g4_2, .u64, 5, dy b, 40⟩, ⟨g8_4, .u64, 5, smL 1, 40⟩, ⟨g8_5, .u64, 5, dsq b, 40⟩, ⟨g9_15, .u64, 5, X, 40⟩] := hH
        clear hS hH HS12 HH12
        refine then_ ?_
        refine wp_cond_false (HS13.get 4 rfl) ?_
        refine wp_skip ?_
        refine then_ ?_
        have hok : decOk b = true := by unfold decOk; rw [hr1, hr2, hr3]; rfl
        rw [dx_n hr3 hX] at HH13
        refine wp_seq ?_
        have hLo : LOk [(0, 58, .val (.agg (FR .u64 5 (dx b)))), (1, 59, .val (.agg (FR .u64 5 (dy b)))), (2, 60, .val (.agg (FR .u64 5 (smL 1)))), (3, 61, .val (.agg (FR .u64 5 (dx b)))), (4, 62, .val (.agg (FR .u64 5 (dy b)))), (5, 63, .val (.agg (FR .u64 5 (mulE (dx b) (dy b))))), (6, 64, .val (.agg (FR .u64 20 (pt4 (dx b) (dy b) (smL 1) (mulE (dx b) (dy b)))))), (8, 3, .val (.bool true))] := lok rfl rfl
        refine yK (wE := w) (sz := 65) (n := 9) (B := [0, 0, 0, 0, 0, 24, 63, 127, 255]) [0, 1, 2, 3, 4, 5, 6, 7, 8] [(2, .val (.pointer (some ⟨g1_1, 0, none⟩))), (3, .val (.bool true))] _ [⟨g1_0, none, none, .u8, 32, yL b, yL b, 22⟩, ⟨g1_1, none, some 7, .u64, 20, fun _ => 0, pt4 (dx b) (dy b) (smL 1) (mulE (dx b) (dy b)), 42⟩, ⟨g4_2, none, none, .u64, 5, dy b, dy b, 40⟩, ⟨g8_4, none, none, .u64, 5, smL 1, smL 1, 40⟩, ⟨g8_5, none, none, .u64, 5, dsq b, dsq b, 40⟩, ⟨g9_15, none, none, .u64, 5, dx b, dx b, 40⟩] (by rfl) rfl tabdec_12 bitsdec_12 (by kernel_rfl) (by kernel_rfl) HH13 rfl rfl hLo rfl HS13 (slS 0 rfl rfl (slL 7 (d := 8) rfl (trivial))) ?_ ?_
        · show ∀ i ∈ [0, 1, 2, 3, 4, 5, 6, 7, 8], _
          refine zA (zG 0 5 _ rfl rfl rfl rfl (fun _ _ _ _ => rfl) hLo rfl rfl rfl (by rfl) Tryd.underlying40 zO rfl (fun b G hb ho => zD rfl (HS13.get 3 rfl))) ?_
          refine zA (zG 1 2 _ rfl rfl rfl rfl (fun _ _ _ _ => rfl) hLo rfl rfl rfl (by rfl) Tryd.underlying40 zO rfl (fun b G hb ho => zD rfl (HS13.get 1 rfl))) ?_
          refine zA (zG 2 3 _ rfl rfl rfl rfl (fun _ _ _ _ => rfl) hLo rfl rfl rfl (by rfl) Tryd.underlying40 zO rfl (fun b G hb ho => zD rfl (HS13.get 2 rfl))) ?_
          refine zA (zG 3 5 _ rfl rfl rfl rfl (fun _ _ _ _ => rfl) hLo rfl rfl rfl (by rfl) Tryd.underlying40 zO rfl (fun b G hb ho => zD rfl (HS13.get 3 rfl))) ?_
          refine zA (zG 4 2 _ rfl rfl rfl rfl (fun _ _ _ _ => rfl) hLo rfl rfl rfl (by rfl) Tryd.underlying40 zO rfl (fun b G hb ho => zD rfl (HS13.get 1 rfl))) ?_
          refine zA (zH 5 _ #[.agg (FR .u64 5 (dx b)), .agg (FR .u64 5 (dy b))] rfl rfl rfl (fun _ _ _ _ => rfl) hLo rfl rfl Tryd.func39 rfl rfl (fun b G hb ho => zU (zB hLo 3 rfl HS13.1 rfl (hb 3 (by rfl))) (zB hLo 4 rfl HS13.1 rfl (hb 4 (by rfl)))) (fun w hw => zS _ _ w (dx_Lm hb) (dy_Lm hb))) ?_
          refine zA (zC 6 _ rfl rfl hLo rfl rfl (fun _ _ _ _ => rfl) (fun b G w hb ho => zZ rfl (parts4 (zB hLo 0 rfl HS13.1 rfl (hb 0 (by rfl))) (zB hLo 1 rfl HS13.1 rfl (hb 1 (by rfl))) (zB hLo 2 rfl HS13.1 rfl (hb 2 (by rfl))) (zB hLo 5 rfl HS13.1 rfl (hb 5 (by rfl)))) (build_pt _ _ _ _ _))) ?_
          refine zA (zI 1 _ rfl rfl rfl rfl rfl (fun _ _ _ _ => rfl) rfl rfl rfl (by rfl) infoPt (fun b G hb ho => zD rfl (HS13.get 0 rfl)) (fun b G hb ho => zB hLo 6 rfl HS13.1 rfl (hb 6 (by rfl)))) ?_
          refine zA (zC 7 _ rfl rfl hLo rfl rfl (fun _ _ _ _ => rfl) (fun b G w hb ho => zF (.inr rfl) (rfl))) ?_
          exact zE
        clear hLo
        intro G a14 w14 hS hH
        have HS14 : Sl a14 65 [(2, .pointer (some ⟨g1_1, 0, none⟩)), (3, .bool true)] := hS
        have HH14 : Held w w14 [⟨g1_0, .u8, 32, yL b, 22⟩, ⟨g1_1, .u64, 20, pt4 (dx b) (dy b) (smL 1) (mulE (dx b) (dy b)), 42⟩, ⟨g4_2, .u64, 5, dy b, 40⟩, ⟨g8_4, .u64, 5, smL 1, 40⟩, ⟨g8_5, .u64, 5, dsq b, 40⟩, ⟨g9_15, .u64, 5, dx b, 40⟩] := hH
        clear hS hH HS13 HH13
        refine then_ ?_
        refine wp_ret ?_
        repeat refine yC ?_
        exact b_row2 rfl HS14.2.1 (HS14.get 0 rfl) (HS14.get 1 rfl) (HH14.row 1 rfl) Tryd.underlying42 rfl infoPt ⟨by rw [decP_y hok, hok], HH14.1⟩
      · skip
        cases r4
        · skip
          refine wp_seq ?_
          refine wp_seq ?_
          have hLo : LOk [(0, 44, .val (.bool true)), (1, 45, .val (.bool false)), (2, 46, .val (.bool false)), (3, 47, .val (.bool true)), (4, 48, .val (.bool true)), (5, 49, .val (.agg (FR .u64 5 (X)))), (6, 50, .val (.agg (FR .u64 5 (fun _ => 0)))), (7, 51, .val (.bool false)), (8, 52, .val (.bool false)), (9, 53, .val (.bool false))] := lok rfl rfl
          refine zJ (wE := w) (sz := 65) (n := 10) [0, 1, 3, 7, 15, 31, 63, 127, 255, 511] [(2, .val (.pointer (some ⟨g1_1, 0, none⟩))), (4, .val (.bool true)), (5, .val (.pointer (some ⟨g4_2, 0, none⟩))), (6, .val (.pointer (some ⟨g8_4, 0, none⟩))), (8, .val (.pointer (some ⟨g9_15, 0, none⟩))), (53, .val (.bool false))] _ [⟨g1_0, none, none, .u8, 32, yL b, yL b, 22⟩, ⟨g1_1, none, none, .u64, 20, fun _ => 0, fun _ => 0, 42⟩, ⟨g4_2, none, none, .u64, 5, dy b, dy b, 40⟩, ⟨g8_4, none, none, .u64, 5, smL 1, smL 1, 40⟩, ⟨g8_5, none, none, .u64, 5, dsq b, dsq b, 40⟩, ⟨g9_15, none, none, .u64, 5, X, X, 40⟩] rfl (by rfl) HH9 rfl rfl hLo rfl HS9 (slS 0 rfl rfl (slS 1 rfl rfl (slS 2 rfl rfl (slS 3 rfl rfl (slS 4 rfl rfl (slL 9 (d := 9) rfl (trivial))))))) ?_ ?_
          · show ∀ i ∈ [0, 1, 2, 3, 4, 5, 6, 7, 8, 9], _
            refine zA (zC 0 _ rfl rfl hLo rfl rfl (fun _ _ _ _ => rfl) (fun b G w hb ho => zF (.inl rfl) (zD rfl (HS9.get 5 rfl)))) ?_
            refine zA (zC 1 _ rfl rfl hLo rfl rfl (fun _ _ _ _ => rfl) (fun b G w hb ho => exec_un rfl (zB hLo 0 rfl HS9.1 rfl (hb 0 (by rfl))) (by rfl))) ?_
            refine zA (zC 2 _ rfl rfl hLo rfl rfl (fun _ _ _ _ => rfl) (fun b G w hb ho => zF (.inl rfl) (zB hLo 1 rfl HS9.1 rfl (hb 1 (by rfl))))) ?_
            refine zA (zC 3 _ rfl rfl hLo rfl rfl (fun b G hb ho => zN rfl rfl rfl HS9.1 rfl (zB hLo 2 rfl HS9.1 rfl (hb 2 (by rfl))) rfl) (fun b G w hb ho => zF (.inl rfl) (zD rfl (HS9.get 1 rfl)))) ?_
            refine zA (zC 4 _ rfl rfl hLo rfl rfl (fun b G hb ho => zN rfl rfl rfl HS9.1 rfl (zB hLo 2 rfl HS9.1 rfl (hb 2 (by rfl))) rfl) (fun b G w hb ho => zF (.inl rfl) (zB hLo 3 rfl HS9.1 rfl (hb 3 (by rfl))))) ?_
            refine zA (zG 5 5 _ rfl rfl rfl rfl (fun b G hb ho => zN rfl rfl rfl HS9.1 rfl (zB hLo 4 rfl HS9.1 rfl (hb 4 (by rfl))) rfl) hLo rfl rfl rfl (by rfl) Tryd.underlying40 zO rfl (fun b G hb ho => zD rfl (HS9.get 4 rfl))) ?_
            refine zA (zC 6 _ rfl rfl hLo rfl rfl (fun b G hb ho => zN rfl rfl rfl HS9.1 rfl (zB hLo 4 rfl HS9.1 rfl (hb 4 (by rfl))) rfl) (fun b G w hb ho => zZ rfl (parts0 ) (by kernel_rfl))) ?_
            refine zA (zH 7 _ #[.agg (FR .u64 5 (X)), .agg (FR .u64 5 (fun _ => 0))] rfl rfl rfl (fun b G hb ho => zN rfl rfl rfl HS9.1 rfl (zB hLo 4 rfl HS9.1 rfl (hb 4 (by rfl))) rfl) hLo rfl rfl Tryd.func53 rfl rfl (fun b G hb ho => zU (zB hLo 5 rfl HS9.1 rfl (hb 5 (by rfl))) (zB hLo 6 rfl HS9.1 rfl (hb 6 (by rfl)))) (fun w hw => is_r hXl Fe.zero.1 hr5 w)) ?_
            refine zA (zC 8 _ rfl rfl hLo rfl rfl (fun b G hb ho => zN rfl rfl rfl HS9.1 rfl (zB hLo 2 rfl HS9.1 rfl (hb 2 (by rfl))) rfl) (fun b G w hb ho => exec_pick rfl (zB hLo 4 rfl HS9.1 rfl (hb 4 (by rfl))) (zB hLo 7 rfl HS9.1 rfl (hb 7 (by rfl))))) ?_
            refine zA (zC 9 _ rfl rfl hLo rfl rfl (fun _ _ _ _ => rfl) (fun b G w hb ho => exec_pick rfl (zB hLo 2 rfl HS9.1 rfl (hb 2 (by rfl))) (zB hLo 8 rfl HS9.1 rfl (hb 8 (by rfl))))) ?_
            exact zE
          clear hLo
          intro G a15 w15 hS hH
          have HS15 : Sl a15 65 [(2, .pointer (some ⟨g1_1, 0, none⟩)), (4, .bool true), (5, .pointer (some ⟨g4_2, 0, none⟩)), (6, .pointer (some ⟨g8_4, 0, none⟩)), (8, .pointer (some ⟨g9_15, 0, none⟩)), (53, .bool false)] := hS
          have HH15 : Held w w15 [⟨g1_0, .u8, 32, yL b, 22⟩, ⟨g1_1, .u64, 20, fun _ => 0, 42⟩, ⟨g4_2, .u64, 5, dy b, 40⟩, ⟨g8_4, .u64, 5, smL 1, 40⟩, ⟨g8_5, .u64, 5, dsq b, 40⟩, ⟨g9_15, .u64, 5, X, 40⟩] := hH
          clear hS hH HS9 HH9
          refine then_ ?_
          refine wp_cond_false (HS15.get 5 rfl) ?_
          refine wp_skip ?_
          refine then_ ?_
          refine wp_seq ?_
          refine wp_seq ?_
          have hLo : LOk [(0, 55, .val (.bool true))] := lok rfl rfl
          refine zJ (wE := w) (sz := 65) (n := 1) [0] [(2, .val (.pointer (some ⟨g1_1, 0, none⟩))), (5, .val (.pointer (some ⟨g4_2, 0, none⟩))), (6, .val (.pointer (some ⟨g8_4, 0, none⟩))), (8, .val (.pointer (some ⟨g9_15, 0, none⟩))), (55, .val (.bool true))] _ [⟨g1_0, none, none, .u8, 32, yL b, yL b, 22⟩, ⟨g1_1, none, none, .u64, 20, fun _ => 0, fun _ => 0, 42⟩, ⟨g4_2, none, none, .u64, 5, dy b, dy b, 40⟩, ⟨g8_4, none, none, .u64, 5, smL 1, smL 1, 40⟩, ⟨g8_5, none, none, .u64, 5, dsq b, dsq b, 40⟩, ⟨g9_15, none, none, .u64, 5, X, X, 40⟩] rfl (by rfl) HH15 rfl rfl hLo rfl HS15 (slS 0 rfl rfl (slS 2 rfl rfl (slS 3 rfl rfl (slS 4 rfl rfl (slL 0 (d := 0) rfl (trivial)))))) ?_ ?_
          · show ∀ i ∈ [0], _
            refine zA (zC 0 _ rfl rfl hLo rfl rfl (fun _ _ _ _ => rfl) (fun b G w hb ho => zF (.inl rfl) (zD rfl (HS15.get 1 rfl)))) ?_
            exact zE
          clear hLo
          intro G a16 w16 hS hH
          have HS16 : Sl a16 65 [(2, .pointer (some ⟨g1_1, 0, none⟩)), (5, .pointer (some ⟨g4_2, 0, none⟩)), (6, .pointer (some ⟨g8_4, 0, none⟩)), (8, .pointer (some ⟨g9_15, 0, none⟩)), (55, .bool true)] := hS
          have HH16 : Held w w16 [⟨g1_0, .u8, 32, yL b, 22⟩, ⟨g1_1, .u64, 20, fun _ => 0, 42⟩, ⟨g4_2, .u64, 5, dy b, 40⟩, ⟨g8_4, .u64, 5, smL 1, 40⟩, ⟨g8_5, .u64, 5, dsq b, 40⟩, ⟨g9_15, .u64, 5, X, 40⟩] := hH
          clear hS hH HS15 HH15
          refine then_ ?_
          refine wp_cond_true (HS16.get 4 rfl) ?_
          have hLo : LOk [(0, 56, .val (.agg (FR .u64 5 (X)))), (1, 57, .val (.agg (FR .u64 5 (negE (X)))))] := lok rfl rfl
          refine zJ (wE := w) (sz := 65) (n := 3) [0, 1, 3] [(2, .val (.pointer (some ⟨g1_1, 0, none⟩))), (5, .val (.pointer (some ⟨g4_2, 0, none⟩))), (6, .val (.pointer (some ⟨g8_4, 0, none⟩))), (8, .val (.pointer (some ⟨g9_15, 0, none⟩)))] _ [⟨g1_0, none, none, .u8, 32, yL b, yL b, 22⟩, ⟨g1_1, none, none, .u64, 20, fun _ => 0, fun _ => 0, 42⟩, ⟨g4_2, none, none, .u64, 5, dy b, dy b, 40⟩, ⟨g8_4, none, none, .u64, 5, smL 1, smL 1, 40⟩, ⟨g8_5, none, none, .u64, 5, dsq b, dsq b, 40⟩, ⟨g9_15, none, some 2, .u64, 5, X, negE (X), 40⟩] rfl (by rfl) HH16 rfl rfl hLo rfl HS16 (slS 0 rfl rfl (slS 1 rfl rfl (slS 2 rfl rfl (slS 3 rfl rfl (trivial))))) ?_ ?_
          · show ∀ i ∈ [0, 1, 2], _
            refine zA (zG 0 5 _ rfl rfl rfl rfl (fun _ _ _ _ => rfl) hLo rfl rfl rfl (by rfl) Tryd.underlying40 zO rfl (fun b G hb ho => zD rfl (HS16.get 3 rfl))) ?_
            refine zA (zH 1 _ #[.agg (FR .u64 5 (X))] rfl rfl rfl (fun _ _ _ _ => rfl) hLo rfl rfl Tryd.func54 rfl rfl (fun b G hb ho => args1 (zB hLo 0 rfl HS16.1 rfl (hb 0 (by rfl)))) (fun w hw => negE_c _ w hXl)) ?_
            refine zA (zI 5 _ rfl rfl rfl rfl rfl (fun _ _ _ _ => rfl) rfl rfl rfl (by rfl) zO (fun b G hb ho => zD rfl (HS16.get 3 rfl)) (fun b G hb ho => zB hLo 1 rfl HS16.1 rfl (hb 1 (by rfl)))) ?_
            exact zE
          clear hLo
          intro G a17 w17 hS hH
          have HS17 : Sl a17 65 [(2, .pointer (some ⟨g1_1, 0, none⟩)), (5, .pointer (some ⟨g4_2, 0, none⟩)), (6, .pointer (some ⟨g8_4, 0, none⟩)), (8, .pointer (some ⟨g9_15, 0, none⟩))] := hS
          have HH17 : Held w w17 [⟨g1_0, .u8, 32, yL b, 22⟩, ⟨g1_1, .u64, 20, fun _ => 0, 42⟩, ⟨g4_2, .u64, 5, dy b, 40⟩, ⟨g8_4, .u64, 5, smL 1, 40⟩, ⟨g8_5, .u64, 5, dsq b, 40⟩, ⟨g9_15, .u64, 5, negE (X), 40⟩] := hH
          clear hS hH HS16 HH16
          refine then_ ?_
          have hok : decOk b = true := by unfold decOk; rw [hr1, hr2, hr3, hr4]; rfl
          rw [dx_y hr3 hX] at HH17
          refine wp_seq ?_
          have hLo : LOk [(0, 58, .val (.agg (FR .u64 5 (dx b)))), (1, 59, .val (.agg (FR .u64 5 (dy b)))), (2, 60, .val (.agg (FR .u64 5 (smL 1)))), (3, 61, .val (.agg (FR .u64 5 (dx b)))), (4, 62, .val (.agg (FR .u64 5 (dy b)))), (5, 63, .val (.agg (FR .u64 5 (mulE (dx b) (dy b))))), (6, 64, .val (.agg (FR .u64 20 (pt4 (dx b) (dy b) (smL 1) (mulE (dx b) (dy b)))))), (8, 3, .val (.bool true))] := lok rfl rfl
          refine yK (wE := w) (sz := 65) (n := 9) (B := [0, 0, 0, 0, 0, 24, 63, 127, 255]) [0, 1, 2, 3, 4, 5, 6, 7, 8] [(2, .val (.pointer (some ⟨g1_1, 0, none⟩))), (3, .val (.bool true))] _ [⟨g1_0, none, none, .u8, 32, yL b, yL b, 22⟩, ⟨g1_1, none, some 7, .u64, 20, fun _ => 0, pt4 (dx b) (dy b) (smL 1) (mulE (dx b) (dy b)), 42⟩, ⟨g4_2, none, none, .u64, 5, dy b, dy b, 40⟩, ⟨g8_4, none, none, .u64, 5, smL 1, smL 1, 40⟩, ⟨g8_5, none, none, .u64, 5, dsq b, dsq b, 40⟩, ⟨g9_15, none, none, .u64, 5, dx b, dx b, 40⟩] (by rfl) rfl tabdec_12 bitsdec_12 (by kernel_rfl) (by kernel_rfl) HH17 rfl rfl hLo rfl HS17 (slS 0 rfl rfl (slL 7 (d := 8) rfl (trivial))) ?_ ?_
          · show ∀ i ∈ [0, 1, 2, 3, 4, 5, 6, 7, 8], _
            refine zA (zG 0 5 _ rfl rfl rfl rfl (fun _ _ _ _ => rfl) hLo rfl rfl rfl (by rfl) Tryd.underlying40 zO rfl (fun b G hb ho => zD rfl (HS17.get 3 rfl))) ?_
            refine zA (zG 1 2 _ rfl rfl rfl rfl (fun _ _ _ _ => rfl) hLo rfl rfl rfl (by rfl) Tryd.underlying40 zO rfl (fun b G hb ho => zD rfl (HS17.get 1 rfl))) ?_
            refine zA (zG 2 3 _ rfl rfl rfl rfl (fun _ _ _ _ => rfl) hLo rfl rfl rfl (by rfl) Tryd.underlying40 zO rfl (fun b G hb ho => zD rfl (HS17.get 2 rfl))) ?_
            refine zA (zG 3 5 _ rfl rfl rfl rfl (fun _ _ _ _ => rfl) hLo rfl rfl rfl (by rfl) Tryd.underlying40 zO rfl (fun b G hb ho => zD rfl (HS17.get 3 rfl))) ?_
            refine zA (zG 4 2 _ rfl rfl rfl rfl (fun _ _ _ _ => rfl) hLo rfl rfl rfl (by rfl) Tryd.underlying40 zO rfl (fun b G hb ho => zD rfl (HS17.get 1 rfl))) ?_
            refine zA (zH 5 _ #[.agg (FR .u64 5 (dx b)), .agg (FR .u64 5 (dy b))] rfl rfl rfl (fun _ _ _ _ => rfl) hLo rfl rfl Tryd.func39 rfl rfl (fun b G hb ho => zU (zB hLo 3 rfl HS17.1 rfl (hb 3 (by rfl))) (zB hLo 4 rfl HS17.1 rfl (hb 4 (by rfl)))) (fun w hw => zS _ _ w (dx_Lm hb) (dy_Lm hb))) ?_
            refine zA (zC 6 _ rfl rfl hLo rfl rfl (fun _ _ _ _ => rfl) (fun b G w hb ho => zZ rfl (parts4 (zB hLo 0 rfl HS17.1 rfl (hb 0 (by rfl))) (zB hLo 1 rfl HS17.1 rfl (hb 1 (by rfl))) (zB hLo 2 rfl HS17.1 rfl (hb 2 (by rfl))) (zB hLo 5 rfl HS17.1 rfl (hb 5 (by rfl)))) (build_pt _ _ _ _ _))) ?_
            refine zA (zI 1 _ rfl rfl rfl rfl rfl (fun _ _ _ _ => rfl) rfl rfl rfl (by rfl) infoPt (fun b G hb ho => zD rfl (HS17.get 0 rfl)) (fun b G hb ho => zB hLo 6 rfl HS17.1 rfl (hb 6 (by rfl)))) ?_
            refine zA (zC 7 _ rfl rfl hLo rfl rfl (fun _ _ _ _ => rfl) (fun b G w hb ho => zF (.inr rfl) (rfl))) ?_
            exact zE
          clear hLo
          intro G a18 w18 hS hH
          have HS18 : Sl a18 65 [(2, .pointer (some ⟨g1_1, 0, none⟩)), (3, .bool true)] := hS
          have HH18 : Held w w18 [⟨g1_0, .u8, 32, yL b, 22⟩, ⟨g1_1, .u64, 20, pt4 (dx b) (dy b) (smL 1) (mulE (dx b) (dy b)), 42⟩, ⟨g4_2, .u64, 5, dy b, 40⟩, ⟨g8_4, .u64, 5, smL 1, 40⟩, ⟨g8_5, .u64, 5, dsq b, 40⟩, ⟨g9_15, .u64, 5, dx b, 40⟩] := hH
          clear hS hH HS17 HH17
          refine then_ ?_
          refine wp_ret ?_
          repeat refine yC ?_
          exact b_row2 rfl HS18.2.1 (HS18.get 0 rfl) (HS18.get 1 rfl) (HH18.row 1 rfl) Tryd.underlying42 rfl infoPt ⟨by rw [decP_y hok, hok], HH18.1⟩
        · skip
          refine wp_seq ?_
          refine wp_seq ?_
          have hLo : LOk [(0, 44, .val (.bool true)), (1, 45, .val (.bool false)), (2, 46, .val (.bool false)), (3, 47, .val (.bool true)), (4, 48, .val (.bool true)), (5, 49, .val (.agg (FR .u64 5 (X)))), (6, 50, .val (.agg (FR .u64 5 (fun _ => 0)))), (7, 51, .val (.bool true)), (8, 52, .val (.bool true)), (9, 53, .val (.bool true))] := lok rfl rfl
          refine zJ (wE := w) (sz := 65) (n := 10) [0, 1, 3, 7, 15, 31, 63, 127, 255, 511] [(2, .val (.pointer (some ⟨g1_1, 0, none⟩))), (53, .val (.bool true))] _ [⟨g1_0, none, none, .u8, 32, yL b, yL b, 22⟩, ⟨g1_1, none, none, .u64, 20, fun _ => 0, fun _ => 0, 42⟩, ⟨g4_2, none, none, .u64, 5, dy b, dy b, 40⟩, ⟨g8_4, none, none, .u64, 5, smL 1, smL 1, 40⟩, ⟨g8_5, none, none, .u64, 5, dsq b, dsq b, 40⟩, ⟨g9_15, none, none, .u64, 5, X, X, 40⟩] rfl (by rfl) HH9 rfl rfl hLo rfl HS9 (slS 0 rfl rfl (slL 9 (d := 9) rfl (trivial))) ?_ ?_
          · show ∀ i ∈ [0, 1, 2, 3, 4, 5, 6, 7, 8, 9], _
            refine zA (zC 0 _ rfl rfl hLo rfl rfl (fun _ _ _ _ => rfl) (fun b G w hb ho => zF (.inl rfl) (zD rfl (HS9.get 5 rfl)))) ?_
            refine zA (zC 1 _ rfl rfl hLo rfl rfl (fun _ _ _ _ => rfl) (fun b G w hb ho => exec_un rfl (zB hLo 0 rfl HS9.1 rfl (hb 0 (by rfl))) (by rfl))) ?_
            refine zA (zC 2 _ rfl rfl hLo rfl rfl (fun _ _ _ _ => rfl) (fun b G w hb ho => zF (.inl rfl) (zB hLo 1 rfl HS9.1 rfl (hb 1 (by rfl))))) ?_
            refine zA (zC 3 _ rfl rfl hLo rfl rfl (fun b G hb ho => zN rfl rfl rfl HS9.1 rfl (zB hLo 2 rfl HS9.1 rfl (hb 2 (by rfl))) rfl) (fun b G w hb ho => zF (.inl rfl) (zD rfl (HS9.get 1 rfl)))) ?_
            refine zA (zC 4 _ rfl rfl hLo rfl rfl (fun b G hb ho => zN rfl rfl rfl HS9.1 rfl (zB hLo 2 rfl HS9.1 rfl (hb 2 (by rfl))) rfl) (fun b G w hb ho => zF (.inl rfl) (zB hLo 3 rfl HS9.1 rfl (hb 3 (by rfl))))) ?_
            refine zA (zG 5 5 _ rfl rfl rfl rfl (fun b G hb ho => zN rfl rfl rfl HS9.1 rfl (zB hLo 4 rfl HS9.1 rfl (hb 4 (by rfl))) rfl) hLo rfl rfl rfl (by rfl) Tryd.underlying40 zO rfl (fun b G hb ho => zD rfl (HS9.get 4 rfl))) ?_
            refine zA (zC 6 _ rfl rfl hLo rfl rfl (fun b G hb ho => zN rfl rfl rfl HS9.1 rfl (zB hLo 4 rfl HS9.1 rfl (hb 4 (by rfl))) rfl) (fun b G w hb ho => zZ rfl (parts0 ) (by kernel_rfl))) ?_
            refine zA (zH 7 _ #[.agg (FR .u64 5 (X)), .agg (FR .u64 5 (fun _ => 0))] rfl rfl rfl (fun b G hb ho => zN rfl rfl rfl HS9.1 rfl (zB hLo 4 rfl HS9.1 rfl (hb 4 (by rfl))) rfl) hLo rfl rfl Tryd.func53 rfl rfl (fun b G hb ho => zU (zB hLo 5 rfl HS9.1 rfl (hb 5 (by rfl))) (zB hLo 6 rfl HS9.1 rfl (hb 6 (by rfl)))) (fun w hw => is_r hXl Fe.zero.1 hr5 w)) ?_
            refine zA (zC 8 _ rfl rfl hLo rfl rfl (fun b G hb ho => zN rfl rfl rfl HS9.1 rfl (zB hLo 2 rfl HS9.1 rfl (hb 2 (by rfl))) rfl) (fun b G w hb ho => exec_pick rfl (zB hLo 4 rfl HS9.1 rfl (hb 4 (by rfl))) (zB hLo 7 rfl HS9.1 rfl (hb 7 (by rfl))))) ?_
            refine zA (zC 9 _ rfl rfl hLo rfl rfl (fun _ _ _ _ => rfl) (fun b G w hb ho => exec_pick rfl (zB hLo 2 rfl HS9.1 rfl (hb 2 (by rfl))) (zB hLo 8 rfl HS9.1 rfl (hb 8 (by rfl))))) ?_
            exact zE
          clear hLo
          intro G a19 w19 hS hH
          have HS19 : Sl a19 65 [(2, .pointer (some ⟨g1_1, 0, none⟩)), (53, .bool true)] := hS
          have HH19 : Held w w19 [⟨g1_0, .u8, 32, yL b, 22⟩, ⟨g1_1, .u64, 20, fun _ => 0, 42⟩, ⟨g4_2, .u64, 5, dy b, 40⟩, ⟨g8_4, .u64, 5, smL 1, 40⟩, ⟨g8_5, .u64, 5, dsq b, 40⟩, ⟨g9_15, .u64, 5, X, 40⟩] := hH
          clear hS hH HS9 HH9
          refine then_ ?_
          refine wp_cond_true (HS19.get 1 rfl) ?_
          refine wp_seq ?_
          have hLo : LOk [(0, 54, .val (.agg (FR .u64 20 (fun _ => 0)))), (2, 3, .val (.bool false))] := lok rfl rfl
          refine zJ (wE := w) (sz := 65) (n := 3) [0, 1, 3] [(2, .val (.pointer (some ⟨g1_1, 0, none⟩))), (3, .val (.bool false))] _ [⟨g1_0, none, none, .u8, 32, yL b, yL b, 22⟩, ⟨g1_1, none, some 1, .u64, 20, fun _ => 0, fun _ => 0, 42⟩, ⟨g4_2, none, none, .u64, 5, dy b, dy b, 40⟩, ⟨g8_4, none, none, .u64, 5, smL 1, smL 1, 40⟩, ⟨g8_5, none, none, .u64, 5, dsq b, dsq b, 40⟩, ⟨g9_15, none, none, .u64, 5, X, X, 40⟩] rfl (by rfl) HH19 rfl rfl hLo rfl HS19 (slS 0 rfl rfl (slL 1 (d := 2) rfl (trivial))) ?_ ?_
          · show ∀ i ∈ [0, 1, 2], _
            refine zA (zC 0 _ rfl rfl hLo rfl rfl (fun _ _ _ _ => rfl) (fun b G w hb ho => zZ rfl (parts0 ) (by kernel_rfl))) ?_
            refine zA (zI 1 _ rfl rfl rfl rfl rfl (fun _ _ _ _ => rfl) rfl rfl rfl (by rfl) infoPt (fun b G hb ho => zD rfl (HS19.get 0 rfl)) (fun b G hb ho => zB hLo 0 rfl HS19.1 rfl (hb 0 (by rfl)))) ?_
            refine zA (zC 1 _ rfl rfl hLo rfl rfl (fun _ _ _ _ => rfl) (fun b G w hb ho => zF (.inr rfl) (rfl))) ?_
            exact zE
          clear hLo
          intro G a20 w20 hS hH
          have HS20 : Sl a20 65 [(2, .pointer (some ⟨g1_1, 0, none⟩)), (3, .bool false)] := hS
          have HH20 : Held w w20 [⟨g1_0, .u8, 32, yL b, 22⟩, ⟨g1_1, .u64, 20, fun _ => 0, 42⟩, ⟨g4_2, .u64, 5, dy b, 40⟩, ⟨g8_4, .u64, 5, smL 1, 40⟩, ⟨g8_5, .u64, 5, dsq b, 40⟩, ⟨g9_15, .u64, 5, X, 40⟩] := hH
          clear hS hH HS19 HH19
          refine then_ ?_
          refine wp_ret ?_
          repeat refine yC ?_
          exact b_row2 rfl HS20.2.1 (HS20.get 0 rfl) (HS20.get 1 rfl) (HH20.row 1 rfl) Tryd.underlying42 rfl infoPt ⟨by rw [decP_n (by unfold decOk; rw [hr1, hr2, hr3, hr4]; rfl), show decOk b = false by unfold decOk; rw [hr1, hr2, hr3, hr4]; rfl], HH20.1⟩
end Go.Proofs.YtbmnkchcekacfaaDoor.P
end
