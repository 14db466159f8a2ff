/- The document's Neg and Good, the law's text and alive (layer 5), by their walks. -/
import Derived.Test.YtchokhakdnjfmaaDoorSk
namespace Go.Proofs.YtchokhakdnjfmaaDoor.P
set_option linter.unusedVariables false
set_option linter.unusedSimpArgs false
open Go.RowKit Go.Proofs.YtchokhakdnjfmaaDoorW.PrintWords Go.Proofs.YtchokhakdnjfmaaDoorW.PrintLast Go.Proofs.YtchokhakdnjfmaaDoorW.PrintMore
attribute [local go_sem] setCell_drewN
/-- A slice that the call owns, opened: its block, its cells, and what a store at its head makes of it. -/
theorem OwnB.open {w : World} {base n : Nat} {v : Value} {z : Nat → Int} (h : OwnB w base v n z) (hn : 0 < n) : ∃ g cap, v = .slice (some ⟨g, 0, none⟩) n cap ∧ base ≤ g ∧ g < w.heap.size ∧ (∀ j, j < n → w.cell? ⟨g, j, none⟩ = some (.int .u8 (z j))) ∧ (∀ j, w.frozen? ⟨g, j, none⟩ = false) ∧
    ∀ x, OwnB (w.setCell ⟨g, 0, none⟩ (.int .u8 x)) base v n (upd z 0 x) := by
  rcases h.2 with ⟨_, h0⟩ | ⟨g, cap, cur, rfl, hb, hg, hn2, hm, hs, ht⟩
  · omega
  · refine ⟨g, cap, rfl, hb, (Array.getElem?_eq_some_iff.1 hg).1, fun j hj => ?_, fun j => frozen_of_row w g j cur _ hg, fun x => ⟨by simp, .inr ⟨g, cap, cur.setIfInBounds 0 (.int .u8 x), rfl, hb, heap_setCell_same w g 0 cur _ _ hg, hn2, hm, by simpa using hs, ?_⟩⟩⟩
    · rw [cell_of_row w g j cur _ _ hg]
      have e : (cur.toList.take (n * 1))[j]? = some (.int .u8 (z j)) := by rw [ht]; simp [hj]
      rw [List.getElem?_take_of_lt (by omega)] at e
      simpa using e
    · have e : (cur.setIfInBounds 0 (Value.int .u8 x)).toList.take (n * 1) = (cur.toList.take (n * 1)).set 0 (.int .u8 x) := by
        rw [Array.toList_setIfInBounds, List.take_set]
      rw [e, ht]
      apply List.ext_getElem?
      intro j
      by_cases hj : j = 0
      · subst hj; simp [upd, hn]
      · rw [List.getElem?_set_ne (by omega)]
        by_cases hjn : j < n
        · simp [hjn, upd, hj]
        · simp [List.getElem?_eq_none, hjn]
def lmD (j : Nat) : Int := if j = 0 then 236 else lD j
theorem lmD_By : By lmD := fun j _ => by
  unfold lmD; split
  · omega
  · exact lD_b j
theorem lmD_N : N32 lmD = LL - 1 := by decide +kernel
def NR1 (b3 : Nat) (w : World) (v5 v4 : Value) (wr : World) : Prop :=
  ∃ i : Nat, i ≤ 32 ∧ v5 = .int .i64 (i : Int) ∧ OwnB wr (b3 + 1) v4 i lD ∧ Below w.heap.size w wr ∧ Row wr b3 .i64 33 lD 46 ∧ b3 + 1 ≤ wr.heap.size
set_option maxRecDepth 100000 in
theorem refneg_calls (a : ByteArray) (w : World) (ha : a.size = 32) :
    Calls Tryd.prog 18 #[.string a] w fun e w' => e = .returned (.string (sN 32 (dig 256 (N32 (sB a) * (LL - 1) % LL)))) ∧ Below w.heap.size w w' := by
  have HAa := Aside0.mk ha
  clear ha
  go_enter Tryd.func18, Tryd.ntmps18
  go_wp2_with fail
  refine (L_calls _).mono ?_
  rintro e w1 ⟨rfl, hb⟩
  have HN := Aside0.mk (Row.new w1 .i64 33 (fun _ => 0) 46)
  have HB2 := Aside0.mk (hb.alloc hb.size (.cells (FR .i64 33 fun _ => 0) 46))
  have hs1 := hb.size
  clear hb
  go_wp2_with (refine step_storeG lD HN.out info33 rfl rfl rfl rfl rfl ?_; intro w3 hs hr; have HB3 := Aside0.mk (hs.bel _ _ hs1 HB2.out); have HL := Aside0.mk hr; clear hs hr)
  clear HN HB2
  have hlt3 := HL.out.lt
  generalize w1.heap.size = b3 at *
  obtain ⟨ix, hinf, hx1, hx2, hx3⟩ := info_parts info8p
  have HI := Aside0.mk hinf
  have HX1 := Aside0.mk hx1
  have HX2 := Aside0.mk hx2
  have HX3 := Aside0.mk hx3
  clear hinf hx1 hx2 hx3
  go_loopw [5, 4] (fun v5 v4 wr => NR1 b3 w v5 v4 wr) (fun v _ _ => 32 - (intOf v).toNat)
  case atStart => exact ⟨0, by omega, rfl, OwnB.nil _ _ _, HB3.out, HL.out, by omega⟩
  case round =>
    clear HB3 HL
    obtain ⟨i, hi, rfl, hown, hb, ha, hl⟩ := hrel
    have HOW := Aside0.mk hown
    have HB := Aside0.mk hb
    have HA := Aside0.mk ha
    have hal := ha.lt
    have hbs := hb.size
    clear hown hb
    rcases Nat.lt_or_ge i 32 with h33 | h33
    · have hlt : ((i : Int) < 32) = True := eq_true (by omega)
      have k0 := ha.cell i (by omega)
      have hdb := lD_b i
      have HPU := Aside0.mk (OwnB.push (n := i) lD)
      generalize lD i = x at *
      have q0 : IntKind.u8.wrap x = x := by rw [u8w]; omega
      have HOWa := Aside0.mk (HOW.out.kept (World.grownBy_alloc wr (.cells #[.int .u8 x] 5) none) (by simp))
      clear ha hdb
      go_wp2_with (refine wpList_append_own _ rfl _ _ 22 rfl (b3 + 1) 5 ix (.int .u8 0) 1 1 Tryd.underlying22 HI.out HX1.out HX2.out HX3.out rfl (by decide) _ i _ rfl HOWa.out ⟨wr.heap.size, 0, none⟩ 1 1 [.int .u8 x] rfl rfl (news_one _ _ _) (by simp [Value.oneCell']) (by unfold maxLen; omega) (by omega) (by simp; omega) ?_; intro v5 w5 ho5 hg5 _; have HO5 := Aside0.mk ho5; have HG5 := Aside0.mk hg5; clear ho5 hg5)
      have HB5 := Aside0.mk ((HB.out.alloc (by omega) (.cells #[.int .u8 x] 5)).grown HG5.out (by simp; omega) (fun k e => by have := (World.ownsRow.lt HOWa.out k e).1; omega))
      have HA5 : Aside0 (Row w5 b3 .i64 33 lD 46) := ⟨(HG5.out.block _ (by simp; omega) (fun e => by have := (World.ownsRow.lt HOWa.out _ e.symm).1; omega)).trans (HA.out.alloc _)⟩
      refine ⟨⟨i + 1, by omega, rfl, ?_, HB5.out, HA5.out, by have := HG5.out.size; simp at this; omega⟩, meas_up 32 i h33⟩
      unfold OwnB
      rw [← HPU.out]
      exact HO5.out
    · obtain rfl : i = 32 := by omega
      obtain ⟨g, cap, rfl, hbg, hgl, hcs, hfs, hset⟩ := HOW.out.open (by omega)
      have k0 : wr.cell? ⟨g, 0, none⟩ = some (.int .u8 237) := hcs 0 (by omega)
      have f0 := hfs 0
      have HO2 := Aside0.mk ((hset 236).congr (z' := lmD) (fun j hj => by
        unfold upd lmD
        by_cases h0 : j = 0 <;> simp [h0]))
      have HB2 := Aside0.mk (bel_set HB.out ⟨g, 0, none⟩ (.int .u8 236) (show w.heap.size ≤ g by omega))
      have hcv := HO2.out.str
      clear ha hcs hfs hset
      go_wp2_with fail
      refine (refmul_calls a (sN 32 lmD) ⟨#[]⟩ _ HAa.out (sN_size _ _) (by decide)).mono ?_
      rintro e w6 ⟨rfl, hb6⟩
      have HB6 := Aside0.mk (HB2.out.trans (hb6.mono HB2.out.size))
      clear hb6 hcv
      go_wp2_with fail
      go_ret
      refine ⟨?_, HB6.out⟩
      have e1 : N32 (sB (sN 32 lmD)) = LL - 1 := by
        rw [← lmD_N]
        exact val_congr 256 _ _ 32 (fun j hj => sB_sN 32 lmD lmD_By j hj)
      have e2 : val 256 (sB ⟨#[]⟩) 0 = 0 := rfl
      rw [e1, e2, Int.add_zero]
      rfl
theorem beq_good (f : Nat → Int) (hf : By f) : ((sN 32 (dig 256 (N32 f % LL))).toList == (sN 32 f).toList) = decide (N32 f < LL) := by
  have e : sN 32 f = sN 32 (dig 256 (N32 f)) := by
    unfold sN; congr 1; apply List.map_congr_left; intro j hj; exact hf.dig j (List.mem_range.1 hj)
  rw [e]
  show ((sOf (dig 256 (N32 f % LL))).toList == (sOf (dig 256 (N32 f))).toList) = _
  rw [sOf_sameL _ _ (modLL_b _) (N32_b f hf)]
  have h := N32_b f hf
  congr 1
  apply propext
  constructor
  · intro e; rw [← e]; unfold LL; omega
  · intro e; exact Int.emod_eq_of_lt h.1 e
theorem refgood_calls (f : Nat → Int) (w : World) (hf : By f) :
    Calls Tryd.prog 13 #[.string (sN 32 f)] w fun e w' => e = .returned (.bool (decide (N32 f < LL))) ∧ Below w.heap.size w w' := by
  have hq := beq_good f hf
  have HV := Aside0.mk (sN_val 32 f hf)
  have hsz := sN_size 32 f
  have HSZ := Aside0.mk hsz
  go_enter Tryd.func13, Tryd.ntmps13
  go_wp2_with fail
  refine (refrest_calls (sN 32 f) _ (by rw [HSZ.out]; omega)).mono ?_
  rintro e w1 ⟨rfl, hb⟩
  have HB := Aside0.mk hb
  clear hb
  rw [HV.out]
  have HQ := Aside0.mk hq
  clear hq
  go_wp2_with fail
  go_ret
  refine ⟨?_, HB.out⟩
  rw [← HQ.out]
  rfl
theorem conv_row {w : World} {g n : Nat} {f : Nat → Int} {t : TypeId} (hr : Row w g .u8 n f t) : (convert 22 9 (.slice (some ⟨g, 0, none⟩) n n)).run Tryd.prog w = .ok (.string (sN n f)) w := by
  refine run_convert_bytes_arg w 22 5 Tryd.underlying22 Tryd.underlying5 g 0 n n ((List.range n).map f) (by simp) (fun i hi => ?_) 9 Tryd.underlying9
  rw [Nat.zero_add, hr.cell i hi]
  simp [List.getD_eq_getElem?_getD, hi]
theorem text_calls (f : Nat → Int) (w : World) :
    Calls Tryd.prog 10 #[.agg (FR .u8 32 f)] w fun e w' => e = .returned (.string (sN 32 f)) ∧ Below w.heap.size w w' := by
  have HR := Row.new w .u8 32 f 23
  have hcv := conv_row HR
  have HB := Aside0.mk ((Below.refl w.heap.size w).alloc (Nat.le_refl _) (.cells (FR .u8 32 f) 23))
  clear HR
  go_enter Tryd.func10, Tryd.ntmps10
  go_wp2_with fail
  go_ret
  exact ⟨rfl, HB.out⟩
theorem smL_By (n : Int) (h : 0 ≤ n ∧ n < 256) : By (smL n) := fun j _ => by unfold smL; split <;> omega
theorem smL_N (n : Int) : N32 (smL n) = n := by
  have e := val_ext0 256 (fun _ => n) 1 32 (by omega)
  have e2 : val 256 (smL n) 32 = val 256 (fun j => if j < 1 then n else 0) 32 := val_congr 256 _ _ 32 (fun j _ => by
    unfold smL
    by_cases h : j = 0
    · rw [if_pos h, if_pos (by omega)]
    · rw [if_neg h, if_neg (by omega)])
  unfold N32
  rw [e2, e]
  simp [val]
theorem alive_calls (w : World) (ho : Ord w) :
    Calls Tryd.prog 14 #[] w fun e w' => e = .returned (.bool true) ∧ Below w.heap.size w w' := by
  have HO := Aside0.mk ho
  have hR : (N32 (smL 2) * N32 (smL 3) + N32 (smL 4)) % LL = 10 := by rw [smL_N, smL_N, smL_N]; decide
  have HR := Aside0.mk hR
  have hq := equal32 (dig 256 10) (smL 10)
  have e : sameRow 32 (dig 256 10) (smL 10) = true := by
    rw [same32 _ _ (dig_By _) (smL_By 10 (by omega)), N32_dig _ (by decide), smL_N]; decide
  rw [e, ← lit_row 10] at hq
  clear ho e hR
  go_enter Tryd.func14, Tryd.ntmps14
  go_wp2_with fail
  rw [lit_row 2, lit_row 3, lit_row 4]
  refine (muladd_calls _ _ _ _ HO.out (smL_By 2 (by omega)) (smL_By 3 (by omega)) (smL_By 4 (by omega))).mono ?_
  rintro e w1 ⟨rfl, hb⟩
  have HB := Aside0.mk hb
  clear hb
  rw [HR.out]
  go_wp2_with fail
  go_ret
  exact ⟨rfl, HB.out⟩
end Go.Proofs.YtchokhakdnjfmaaDoor.P
