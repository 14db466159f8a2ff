/- The document's Mul by its walk. -/
import Derived.Test.YthonoagpiofojaaA7
namespace Go.Proofs.Ythonoagpiofojaa.P
set_option linter.unusedVariables false
set_option linter.unusedSimpArgs false
open Go.RowKit
attribute [local go_sem] setCell_drewN
def URel (w : World) (f g : Nat → Int) (i : Nat) (v7 : Value) (wr : World) : Prop :=
  ∃ k : Nat, k ≤ 16 ∧ v7 = .int .i64 (k : Int) ∧ Below w.heap.size w wr ∧ Row wr w.heap.size .i64 16 f 33 ∧ Row wr (w.heap.size + 1) .i64 16 g 33 ∧ Row wr (w.heap.size + 1 + 1) .i64 16 (fun _ => 0) 33 ∧ Row wr (w.heap.size + 1 + 1 + 1) .i64 31 (tN f g (16 * i + k)) 67
def TRel (w : World) (f g : Nat → Int) (v6 : Value) (wr : World) : Prop :=
  ∃ i : Nat, i ≤ 16 ∧ v6 = .int .i64 (i : Int) ∧ Below w.heap.size w wr ∧ Row wr w.heap.size .i64 16 f 33 ∧ Row wr (w.heap.size + 1) .i64 16 g 33 ∧ Row wr (w.heap.size + 1 + 1) .i64 16 (fun _ => 0) 33 ∧ Row wr (w.heap.size + 1 + 1 + 1) .i64 31 (tN f g (16 * i)) 67
def XRel (w : World) (f g : Nat → Int) (v9 : Value) (bo : Nat) (wr : World) : Prop :=
  ∃ i : Nat, i ≤ 16 ∧ v9 = .int .i64 (i : Int) ∧ Below w.heap.size w wr ∧ Row wr (w.heap.size + 1 + 1) .i64 16 (fun _ => 0) 33 ∧ Row wr (w.heap.size + 1 + 1 + 1) .i64 31 (tN f g 256) 67 ∧ Row wr bo .i64 16 (fun j => if j < i then outR f g j else 0) 33
theorem ij_nat (i k : Nat) : ((i : Int) + (k : Int)).toNat = i + k := by omega
theorem bel_four (w : World) (a b c d : Obj) : Below w.heap.size w ((((w.alloc a).alloc b).alloc c).alloc d) := (bel_three w a b c).alloc (bel_three w a b c).size d
theorem four_new (w : World) (a b c d : Obj) : ((((w.alloc a).alloc b).alloc c).alloc d).heap[w.heap.size + 1 + 1 + 1]? = some d := by
  have h := heap_alloc_new (((w.alloc a).alloc b).alloc c) d
  have e : (((w.alloc a).alloc b).alloc c).heap.size = w.heap.size + 1 + 1 + 1 := by simp
  rwa [e] at h
theorem mul_wraps (i k : Nat) (hi : i < 16) (hk : k < 16) : wrap64 ((i : Int) + (k : Int)) = (i : Int) + (k : Int) ∧ IntKind.i64.wrap ((i : Int) + (k : Int)) = (i : Int) + (k : Int) := ⟨w64 _ (by omega), i64w _ (by omega)⟩
theorem mul_vals (f g : Nat → Int) (hf : Rn f) (hg : Rn g) (i k s : Nat) (hi : i < 16) (hk : k < 16) (hs : s ≤ 256) (j : Nat) : wrap64 (f i * g k) = f i * g k ∧ IntKind.i64.wrap (f i * g k) = f i * g k ∧ wrap64 (tN f g s j + f i * g k) = tN f g s j + f i * g k ∧ IntKind.i64.wrap (tN f g s j + f i * g k) = tN f g s j + f i * g k := by
  have h1 := prod_b (hf.b i hi) (hg.b k hk)
  have h2 := tN_b f g hf hg s hs j
  generalize f i * g k = x at *
  generalize tN f g s j = y at *
  exact ⟨w64 _ (by omega), i64w _ (by omega), w64 _ (by omega), i64w _ (by omega)⟩
theorem out_wraps (x y : Int) (hx : -((256 : Nat) : Int) * 40000000000 ≤ x ∧ x ≤ ((256 : Nat) : Int) * 40000000000) (hy : -((256 : Nat) : Int) * 40000000000 ≤ y ∧ y ≤ ((256 : Nat) : Int) * 40000000000) : wrap64 (38 * y) = 38 * y ∧ IntKind.i64.wrap (38 * y) = 38 * y ∧ wrap64 (x + 38 * y) = x + 38 * y ∧ IntKind.i64.wrap (x + 38 * y) = x + 38 * y := ⟨w64 _ (by omega), i64w _ (by omega), w64 _ (by omega), i64w _ (by omega)⟩
theorem mulR_c (f g : Nat → Int) (w : World) (hf : Rn f) (hg : Rn g) :
    Calls Try.prog 27 #[.agg (FR .i64 16 f), .agg (FR .i64 16 g)] w fun e w' => e = .returned (.agg (FR .i64 16 (mulR f g))) ∧ Below w.heap.size w w' := by
  have HF := Aside0.mk hf
  have HG := Aside0.mk hg
  have HO := Aside0.mk (outR_b f g hf hg)
  clear hf hg
  go_enter Try.func27, Try.ntmps27
  go_wp2_with fail
  have HB0 := Aside0.mk (bel_four w (.cells (FR .i64 16 f) 33) (.cells (FR .i64 16 g) 33) (.cells (FR .i64 16 fun _ => 0) 33) (.cells (FR .i64 31 fun _ => 0) 67))
  have HR0 : Aside0 (Row ((((w.alloc (.cells (FR .i64 16 f) 33)).alloc (.cells (FR .i64 16 g) 33)).alloc (.cells (FR .i64 16 fun _ => 0) 33)).alloc (.cells (FR .i64 31 fun _ => 0) 67)) w.heap.size .i64 16 f 33) := ⟨(((Row.new w .i64 16 f 33).alloc _).alloc _).alloc _⟩
  have HR1 : Aside0 (Row ((((w.alloc (.cells (FR .i64 16 f) 33)).alloc (.cells (FR .i64 16 g) 33)).alloc (.cells (FR .i64 16 fun _ => 0) 33)).alloc (.cells (FR .i64 31 fun _ => 0) 67)) (w.heap.size + 1) .i64 16 g 33) := ⟨Row.alloc (Row.alloc (show Row ((w.alloc (.cells (FR .i64 16 f) 33)).alloc (.cells (FR .i64 16 g) 33)) (w.heap.size + 1) .i64 16 g 33 from heap_alloc2_new w _ _) _) _⟩
  have HR2 : Aside0 (Row ((((w.alloc (.cells (FR .i64 16 f) 33)).alloc (.cells (FR .i64 16 g) 33)).alloc (.cells (FR .i64 16 fun _ => 0) 33)).alloc (.cells (FR .i64 31 fun _ => 0) 67)) (w.heap.size + 1 + 1) .i64 16 (fun _ => 0) 33) := ⟨Row.alloc (show Row (((w.alloc (.cells (FR .i64 16 f) 33)).alloc (.cells (FR .i64 16 g) 33)).alloc (.cells (FR .i64 16 fun _ => 0) 33)) (w.heap.size + 1 + 1) .i64 16 (fun _ => 0) 33 from three_new w _ _ _) _⟩
  have HR3 : Aside0 (Row ((((w.alloc (.cells (FR .i64 16 f) 33)).alloc (.cells (FR .i64 16 g) 33)).alloc (.cells (FR .i64 16 fun _ => 0) 33)).alloc (.cells (FR .i64 31 fun _ => 0) 67)) (w.heap.size + 1 + 1 + 1) .i64 31 (fun _ => 0) 67) := ⟨four_new w _ _ _ _⟩
  go_loopw [6] (fun v6 wr => TRel w f g v6 wr) (fun v _ => 16 - (intOf v).toNat)
  case atStart => exact ⟨0, by omega, rfl, HB0.out, HR0.out, HR1.out, HR2.out, row_eq HR3.out (fun j _ => by rw [Nat.mul_zero]; rfl)⟩
  case round =>
    clear HB0 HR0 HR1 HR2 HR3
    obtain ⟨i, hi, rfl, hb, hr, hg, hz, ht⟩ := hrel
    have HB := Aside0.mk hb
    have HR := Aside0.mk hr
    have HR2 := Aside0.mk hg
    have HZ := Aside0.mk hz
    have HT := Aside0.mk ht
    have hl1 := hr.lt
    have hl2 := hg.lt
    have hl3 := hz.lt
    have hl4 := ht.lt
    clear hb hr hg hz ht
    rcases Nat.lt_or_ge i 16 with h16 | h16
    · have hlt : ((i : Int) < 16) = True := eq_true (by omega)
      go_wp2_with fail
      go_loopw [7] (fun v7 wr => URel w f g i v7 wr) (fun v _ => 16 - (intOf v).toNat)
      case atStart => exact ⟨0, by omega, rfl, HB.out, HR.out, HR2.out, HZ.out, HT.out⟩
      case round =>
        clear HB HR HR2 HZ HT
        obtain ⟨k, hk, rfl, hb, hr, hg, hz, ht⟩ := hrel
        have HB := Aside0.mk hb
        have HR := Aside0.mk hr
        have HR2 := Aside0.mk hg
        have HZ := Aside0.mk hz
        have HT := Aside0.mk ht
        rcases Nat.lt_or_ge k 16 with h17 | h17
        · have hltk : ((k : Int) < 16) = True := eq_true (by omega)
          have hlt31 : ((i : Int) + (k : Int) < 31) = True := eq_true (by omega)
          have hij := ij_nat i k
          obtain ⟨q1, q2⟩ := mul_wraps i k h16 h17
          obtain ⟨q3, q4, q5, q6⟩ := mul_vals f g HF.out HG.out i k (16 * i + k) h16 h17 (by omega) (i + k)
          have k0 := hr.cell i (by omega)
          have k1 := hg.cell k (by omega)
          have k2 := ht.cell (i + k) (by omega)
          have f2 := ht.fro (i + k)
          have HS := Aside0.mk (ht.set (i + k) (tN f g (16 * i + k) (i + k) + f i * g k) (by omega))
          have HE := Aside0.mk (tN_step f g i k h17)
          clear hb hr hg hz ht
          go_wp2_with fail
          go_region
          all_goals go_wp2_with fail
          refine ⟨⟨k + 1, by omega, rfl, (bel_set HB.out ⟨w.heap.size + 1 + 1 + 1, i + k, none⟩ _ (by simp; omega)).drew, HR.out.other ⟨w.heap.size + 1 + 1 + 1, i + k, none⟩ _ (by simp; omega), HR2.out.other ⟨w.heap.size + 1 + 1 + 1, i + k, none⟩ _ (by simp), HZ.out.other ⟨w.heap.size + 1 + 1 + 1, i + k, none⟩ _ (by simp), ?_⟩, meas_up 16 k (by omega)⟩
          rw [HE.out]
          exact HS.out
        · obtain rfl : k = 16 := by omega
          clear hb hr hg hz ht
          go_wp2_with fail
          exact ⟨⟨i + 1, by omega, rfl, HB.out, HR.out, HR2.out, HZ.out, HT.out⟩, meas_up 16 i (by omega)⟩
    · obtain rfl : i = 16 := by omega
      clear HR HR2
      have HN := Aside0.mk (Row.new wr .i64 16 (fun _ => 0) 33)
      have HZ2 := Aside0.mk (HZ.out.alloc (.cells (FR .i64 16 fun _ => 0) 33))
      have HT2 := Aside0.mk (HT.out.alloc (.cells (FR .i64 16 fun _ => 0) 33))
      have HB2 := Aside0.mk (HB.out.alloc (by omega) (.cells (FR .i64 16 fun _ => 0) 33))
      go_wp2_with fail
      have hbo : w.heap.size + 1 + 1 + 1 < wr.heap.size := hl4
      generalize wr.heap.size = bo at *
      go_loopw [9] (fun v9 wr' => XRel w f g v9 bo wr') (fun v _ => 16 - (intOf v).toNat)
      case atStart => exact ⟨0, by omega, rfl, HB2.out, HZ2.out, HT2.out, row_eq HN.out (fun j hj => (if_neg (by omega)).symm)⟩
      case round =>
        clear HN HZ2 HT2 HB2 HB HZ HT
        obtain ⟨i, hi, rfl, hb, hz, ht, ho⟩ := hrel
        have HB := Aside0.mk hb
        have HZ := Aside0.mk hz
        have HT := Aside0.mk ht
        have HO2 := Aside0.mk ho
        rcases Nat.lt_or_ge i 16 with h16 | h16
        · have hlt : ((i : Int) < 16) = True := eq_true (by omega)
          have hlt31 : ((i : Int) < 31) = True := eq_true (by omega)
          have k0 := ht.cell i (by omega)
          have f0 := ho.fro i
          have k2 := ho.cell i (by omega)
          have HS := Aside0.mk (ho.set i (tN f g 256 i) (by omega))
          have hs1 := ho.set i (tN f g 256 i) (by omega)
          have hb1 := tN_b f g HF.out HG.out 256 (by omega) i
          have hb2 := tN_b f g HF.out HG.out 256 (by omega) (i + 16)
          rcases Nat.lt_or_ge i 15 with h15 | h15
          · have hlt15 : ((i : Int) < 15) = True := eq_true (by omega)
            have hlt3 : ((i : Int) + 16 < 31) = True := eq_true (by omega)
            have k1 := ht.cell (i + 16) (by omega)
            have HE : Aside0 (outR f g i = tN f g 256 i + 38 * tN f g 256 (i + 16)) := ⟨if_pos h15⟩
            generalize tN f g 256 i = x at *
            generalize tN f g 256 (i + 16) = y at *
            have q1 : wrap64 ((i : Int) + 16) = (i : Int) + 16 := w64 _ (by omega)
            have q2 : IntKind.i64.wrap ((i : Int) + 16) = (i : Int) + 16 := i64w _ (by omega)
            have q3 : ((i : Int) + 16).toNat = i + 16 := by omega
            obtain ⟨r1, r2, r3, r4⟩ := out_wraps x y (by omega) (by omega)
            have HS2 := Aside0.mk (hs1.set i (x + 38 * y) (by omega))
            clear hb hz ht ho hs1 hb1 hb2
            go_wp2_with fail
            go_region
            all_goals go_wp2_with fail
            refine ⟨⟨i + 1, by omega, rfl, ?_, ?_, ?_, ?_⟩, meas_up 16 i (by omega)⟩
            · exact (bel_set (bel_set HB.out ⟨bo, i, none⟩ _ (by simp; omega)) ⟨bo, i, none⟩ _ (by simp; omega)).drew
            · exact (HZ.out.other ⟨bo, i, none⟩ _ (by simp; omega)).other ⟨bo, i, none⟩ _ (by simp; omega)
            · exact (HT.out.other ⟨bo, i, none⟩ _ (by simp; omega)).other ⟨bo, i, none⟩ _ (by simp; omega)
            · exact row_eq HS2.out (fun j hj => by
                unfold upd
                by_cases hji : j = i
                · subst hji; rw [if_pos rfl, if_pos (by omega), HE.out]
                · rw [if_neg hji, if_neg hji]
                  show (if j < i then outR f g j else 0) = _
                  by_cases hjl : j < i
                  · rw [if_pos hjl, if_pos (by omega)]
                  · rw [if_neg hjl, if_neg (by omega)])
          · obtain rfl : i = 15 := by omega
            have HE : Aside0 (outR f g 15 = tN f g 256 15) := ⟨if_neg (by omega)⟩
            generalize tN f g 256 15 = x at *
            clear hb hz ht ho hs1 hb1 hb2
            go_wp2_with fail
            refine ⟨⟨16, by omega, rfl, ?_, ?_, ?_, ?_⟩, by decide⟩
            · exact bel_set HB.out ⟨bo, 15, none⟩ _ (by simp; omega)
            · exact HZ.out.other ⟨bo, 15, none⟩ _ (by simp; omega)
            · exact HT.out.other ⟨bo, 15, none⟩ _ (by simp; omega)
            · exact row_eq HS.out (fun j hj => by
                unfold upd
                by_cases hji : j = 15
                · subst hji; rw [if_pos rfl, if_pos (by omega), HE.out]
                · rw [if_neg hji]
                  show (if j < 15 then outR f g j else 0) = _
                  by_cases hjl : j < 15
                  · rw [if_pos hjl, if_pos (by omega)]
                  · omega)
        · obtain rfl : i = 16 := by omega
          have HO3 := Aside0.mk (row_eq HO2.out (f' := outR f g) (fun j hj => if_pos hj))
          have hlz := hz.lt
          clear hb hz ht ho HO2
          go_wp2_with (refine step_load HO3.out Try.underlying33 info33 rfl rfl rfl rfl ?_)
          refine (carry_calls _ _ HO.out).mono ?_
          rintro e w1 ⟨rfl, hb⟩
          have HZ1 := Aside0.mk (HZ.out.below hb hlz)
          have HB1 := Aside0.mk (HB.out.trans (hb.mono HB.out.size))
          clear hb
          go_wp2_with fail
          refine (carry_calls _ _ (carry_CB1 _ HO.out).cb).mono ?_
          rintro e w2 ⟨rfl, hb⟩
          have HZ2 := Aside0.mk (HZ1.out.below hb HZ1.out.lt)
          have HB2 := Aside0.mk (HB1.out.trans (hb.mono HB1.out.size))
          clear hb
          go_wp2_with (refine step_storeG _ HZ2.out info33 rfl rfl rfl rfl rfl ?_; intro w9 hs hr; have HS9 := Aside0.mk hs; have HR9 := Aside0.mk hr; clear hs hr)
          refine bodyPost_ret (row_results rfl HR9.out rfl Try.underlying33 rfl info33) rfl ?_
          exact ⟨rfl, HS9.out.bel _ _ (by omega) HB2.out⟩
end Go.Proofs.Ythonoagpiofojaa.P
