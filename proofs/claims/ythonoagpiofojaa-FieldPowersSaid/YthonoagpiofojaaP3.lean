/- field.Mul by its walk. -/
import Derived.Test.YthonoagpiofojaaA8
import Derived.Test.YthonoagpiofojaaM2
import Derived.Test.YthonoagpiofojaaP2
namespace Go.Proofs.Ythonoagpiofojaa.P
set_option linter.unusedVariables false
set_option linter.unusedSimpArgs false
open Go.RowKit Go.Proofs.YthonoagpiofojaaW.PrintWords Go.Proofs.YthonoagpiofojaaW.PrintLast Go.Proofs.YthonoagpiofojaaW.PrintMore
attribute [local go_sem] setCell_drewN
theorem tab2611 : rtab .any (opsOf Try.f26 11) = (true, [([], []), ([], []), ([0, 1], [0, 1]), ([2], [2]), ([], []), ([], []), ([4, 5], [4, 5]), ([6], [6]), ([7], [7]), ([8], [8]), ([], []), ([], []), ([], []), ([12, 11], [11, 12]), ([13], [13]), ([9, 10, 14], [9, 10, 14]), ([3, 0, 1, 2, 3, 4, 5, 6, 7, 8, 9, 10, 11, 12, 13, 14, 15], [3]), ([16, 15, 15, 0, 1, 2, 3, 4, 5, 6, 7, 8, 9, 10, 11, 12, 13, 14, 15], [15, 16])]) := by kernel_rfl
theorem bits2611 : waitsOk [([], []), ([], []), ([0, 1], [0, 1]), ([2], [2]), ([], []), ([], []), ([4, 5], [4, 5]), ([6], [6]), ([7], [7]), ([8], [8]), ([], []), ([], []), ([], []), ([12, 11], [11, 12]), ([13], [13]), ([9, 10, 14], [9, 10, 14]), ([3, 0, 1, 2, 3, 4, 5, 6, 7, 8, 9, 10, 11, 12, 13, 14, 15], [3]), ([16, 15, 15, 0, 1, 2, 3, 4, 5, 6, 7, 8, 9, 10, 11, 12, 13, 14, 15], [15, 16])] [0, 0, 3, 7, 0, 0, 48, 112, 240, 496, 0, 0, 0, 6144, 14336, 32752, 65535, 131071] = true := by kernel_rfl
/-- Five numbers of 128 bits in ten words. -/
def sw (s : Nat → Int) (j : Nat) : Int := wd (s (j / 2)) (j % 2)
/-- Two words of the ten, read. -/
theorem exec_load2 {o : Oper} {ev : Operand → Value} {w : World} {x : Operand} {g off j : Nat} {s : Nat → Int} {t : TypeId} (hr : Row w g .u64 10 (sw s) t) (hj : j < 5) (hoff : off = 2 * j) (ho : o.op = .load 62 x) (hx : ev x = .pointer (some ⟨g, off, none⟩)) :
    (execOp ev o).run Try.prog w = .ok (.value (.agg (FR .u64 2 (wd (s j))))) w := by
  subst hoff
  have hl : (loadCells ⟨g, 2 * j, none⟩ 2).run Try.prog w = .ok ([.int .u64 (wd (s j) 0), .int .u64 (wd (s j) 1)] : List Value).toArray w :=
    run_loadCells_list (P := Try.prog) w ⟨g, 2 * j, none⟩ [.int .u64 (wd (s j) 0), .int .u64 (wd (s j) 1)] (fun k v hv => by
      have hadd : (⟨g, 2 * j, none⟩ : Addr).add k = ⟨g, 2 * j + k, none⟩ := by unfold Addr.add; split <;> simp_all
      rw [hadd]
      have hk : k = 0 ∨ k = 1 := by
        rcases Nat.lt_or_ge k 2 with h | h
        · omega
        · rw [List.getElem?_eq_none (by simp; omega)] at hv; cases hv
      rcases hk with rfl | rfl
      · rw [hr.cell (2 * j + 0) (by omega), ← hv]
        simp [sw, Nat.mul_div_cancel_left]
      · rw [hr.cell (2 * j + 1) (by omega), ← hv]
        have e1 : (2 * j + 1) / 2 = j := by omega
        have e2 : (2 * j + 1) % 2 = 1 := by omega
        simp [sw, e1, e2])
  have ha : (isAgg 62).run Try.prog w = .ok true w := by simp [isAgg, run_underlying Try.underlying62]
  obtain ⟨ie, hie, hs⟩ : ∃ ie, Try.prog.info? 62 = some ie ∧ ie.size = 2 := by
    have h := info62
    cases he : Try.prog.info? 62 with
    | none => rw [he] at h; cases h
    | some ie => rw [he] at h; exact ⟨ie, rfl, Option.some.inj h⟩
  have hti : (typeInfo 62).run Try.prog w = .ok ie w := by simp [typeInfo, hie]
  unfold execOp
  simp only [ho, hx, Instr.loadAt, Instr.sureAddr, Sem.run_bind, Sem.run_pure, Result.andThen_ok, loadVar, ha, sizeOf, hti, hs, hl, if_true]
  rfl
theorem sw_upd (s : Nat → Int) (j : Nat) (V : Int) (i : Nat) : upd (upd (sw s) (2 * j) (wd V 0)) (2 * j + 1) (wd V 1) i = sw (upd s j V) i := by
  unfold upd sw
  by_cases h1 : i = 2 * j + 1
  · subst h1
    rw [if_pos rfl, show (2 * j + 1) / 2 = j by omega, show (2 * j + 1) % 2 = 1 by omega]
    simp [upd]
  · rw [if_neg h1]
    by_cases h2 : i = 2 * j
    · subst h2
      rw [if_pos rfl, show (2 * j) / 2 = j by omega, show (2 * j) % 2 = 0 by omega]
      simp [upd]
    · rw [if_neg h2]
      have : i / 2 ≠ j := by omega
      simp [upd, this]
/-- Two words of the ten, stored. -/
theorem oper_store2 {o : Oper} {ops : Array Oper} {a : Act} {w : World} {K : Act → World → Prop} {Q : Exit → Act → World → Prop} {x y : Operand} {g off j : Nat} {s : Nat → Int} {t : TypeId} (V : Int)
    (hr : Row w g .u64 10 (sw s) t) (hj : j < 5) (hoff : off = 2 * j) (hw : Region.wanted o (yielded ops a.tmps) = true) (hdst : o.dst = none) (ho : o.op = .store 62 x y) (hx : a.eval x = .pointer (some ⟨g, off, none⟩)) (hy : a.eval y = .agg (FR .u64 2 (wd V)))
    (h : ∀ w', Stored w w' g → Row w' g .u64 10 (sw (upd s j V)) t → K a w') : if Region.wanted o (yielded ops a.tmps) = true then Oper.wp Try.prog o a w K Q else K (a.put none undef) w := by
  subst hoff
  rw [if_pos hw]
  have hst := run_storeCells_cells (P := Try.prog) g (2 * j) [.int .u64 (wd V 0), .int .u64 (wd V 1)] 0 w
    (fun k hk => by
      have hk2 : k < 2 := hk
      rw [hr.cell (2 * j + 0 + k) (by omega)]; rfl)
    (fun k hk => hr.fro _)
    (fun v hv => by simp at hv; rcases hv with rfl | rfl <;> rfl)
  obtain ⟨ie, hie, hs⟩ : ∃ ie, Try.prog.info? 62 = some ie ∧ ie.size = 2 := by
    have h := info62
    cases he : Try.prog.info? 62 with
    | none => rw [he] at h; cases h
    | some ie => rw [he] at h; exact ⟨ie, rfl, Option.some.inj h⟩
  have hti : (typeInfo 62).run Try.prog w = .ok ie w := by simp [typeInfo, hie]
  have hsv : (storeVar 62 ⟨g, 2 * j, none⟩ (.agg (FR .u64 2 (wd V)))).run Try.prog w = .ok () (w.setCells g (2 * j + 0) [.int .u64 (wd V 0), .int .u64 (wd V 1)]) := by
    show (storeVar 62 ⟨g, 2 * j, none⟩ (.agg #[.int .u64 (wd V 0), .int .u64 (wd V 1)])).run Try.prog w = _
    simp [storeVar, Value.cells, sizeOf, hti, hs, Result.andThen]
    simpa using hst
  unfold Oper.wp execOp
  simp only [ho, hx, hy, Instr.storeAt, Instr.sureAddr, Sem.run_bind, Sem.run_pure, Result.andThen_ok, hsv]
  have hrow : Row (w.setCells g (2 * j + 0) [.int .u64 (wd V 0), .int .u64 (wd V 1)]) g .u64 10 (sw (upd s j V)) t :=
    row_eq ((hr.set (2 * j) (wd V 0) (by omega)).set (2 * j + 1) (wd V 1) (by omega)) (fun i hi => sw_upd s j V i)
  have := h _ ⟨fun k hk => setCells_other hk _ _ _, setCells_size g _ _ _, fun B W hB hb => bel_setCells hB _ _ _ hb⟩ hrow
  show K (a.put o.dst undef) _
  rw [hdst]
  exact this
theorem plus_c (W x y : Int) (w : World) (hx : 0 ≤ x ∧ x < 18446744073709551616) (hy : 0 ≤ y ∧ y < 18446744073709551616) (hW : 0 ≤ W) (hs : W + x * y < 340282366920938463463374607431768211456) :
    Calls Try.prog 40 #[.agg (FR .u64 2 (wd W)), .int .u64 x, .int .u64 y] w fun e w' => e = .returned (.agg (FR .u64 2 (wd (W + x * y)))) ∧ Below w.heap.size w w' := by
  obtain ⟨X, rfl⟩ := Int.eq_ofNat_of_zero_le hx.1
  obtain ⟨Y, rfl⟩ := Int.eq_ofNat_of_zero_le hy.1
  exact plus_calls W X Y w (by omega) (by omega) hW hs
def SRel2 (w : World) (f g : Nat → Int) (i : Nat) (v19 : Value) (wr : World) : Prop :=
  ∃ k : Nat, k ≤ 5 ∧ v19 = .int .i64 (k : Int) ∧ Below w.heap.size w wr ∧ Row wr w.heap.size .u64 5 f 27 ∧ Row wr (w.heap.size + 1) .u64 5 g 27 ∧ Row wr (w.heap.size + 1 + 1) .u64 5 (fun _ => 0) 27 ∧ Row wr (w.heap.size + 1 + 1 + 1) .u64 10 (sw (sN f g (5 * i + k))) 63
def SRel1 (w : World) (f g : Nat → Int) (v16 : Value) (wr : World) : Prop :=
  ∃ i : Nat, i ≤ 5 ∧ v16 = .int .i64 (i : Int) ∧ Below w.heap.size w wr ∧ Row wr w.heap.size .u64 5 f 27 ∧ Row wr (w.heap.size + 1) .u64 5 g 27 ∧ Row wr (w.heap.size + 1 + 1) .u64 5 (fun _ => 0) 27 ∧ Row wr (w.heap.size + 1 + 1 + 1) .u64 10 (sw (sN f g (5 * i))) 63
theorem ij_nat5 (i k : Nat) : ((i : Int) + (k : Int)).toNat = i + k := by omega
theorem bel_four5 (w : World) (a b c d : Obj) : Below w.heap.size w ((((w.alloc a).alloc b).alloc c).alloc d) := (bel_three w a b c).alloc (bel_three w a b c).size d
theorem four_new5 (w : World) (a b c d : Obj) : ((((w.alloc a).alloc b).alloc c).alloc d).heap[w.heap.size + 1 + 1 + 1]? = some d := by
  have h := heap_alloc_new (((w.alloc a).alloc b).alloc c) d
  have e : (((w.alloc a).alloc b).alloc c).heap.size = w.heap.size + 1 + 1 + 1 := by simp
  rwa [e] at h
theorem m5_wraps (i k : Nat) (hi : i < 5) (hk : k < 5) : wrap64 ((i : Int) + (k : Int)) = (i : Int) + (k : Int) ∧ IntKind.i64.wrap ((i : Int) + (k : Int)) = (i : Int) + (k : Int) ∧ Int.tmod ((i : Int) + (k : Int)) 5 = (((i + k) % 5 : Nat) : Int) := ⟨w64 _ (by omega), i64w _ (by omega), by rw [Int.tmod_eq_emod_of_nonneg (by omega)]; omega⟩
theorem sw_zero (f g : Nat → Int) (j : Nat) : (fun _ : Nat => (0 : Int)) j = sw (sN f g (5 * 0)) j := by
  show (0 : Int) = wd (sN f g 0 (j / 2)) (j % 2)
  show (0 : Int) = wd 0 (j % 2)
  unfold wd
  split <;> rfl
theorem or13 (x y : Int) (h0 : 0 ≤ x ∧ x < 2251799813685248) (h1 : 0 ≤ y ∧ y < 8192) : Go.bits .or .u64 (x * 8192) y = x * 8192 + y := by
  rw [u64_or _ _ (by omega) (by omega) (by omega) (by omega)]
  have e : (x * 8192).toNat ||| y.toNat = x.toNat * 2 ^ 13 + y.toNat := by
    have : (x * 8192).toNat = x.toNat * 2 ^ 13 := by omega
    rw [this, Nat.mul_comm, ← Nat.two_pow_add_eq_or_of_lt (by omega)]
  rw [e]
  omega
theorem index63 (s : Nat → Int) (i : Nat) (hi : i < 5) (w : World) : (Instr.index 63 (.agg (FR .u64 10 (sw s))) (.int .i64 (i : Int))).run Try.prog w = .ok (.agg (FR .u64 2 (wd (s i)))) w := by
  obtain ⟨ie, hie, hs⟩ : ∃ ie, Try.prog.info? 62 = some ie ∧ ie.size = 2 := by
    have h := info62
    cases he : Try.prog.info? 62 with
    | none => rw [he] at h; cases h
    | some ie => rw [he] at h; exact ⟨ie, rfl, Option.some.inj h⟩
  have h1 : (asIntOf (.int .i64 (i : Int))).run Try.prog w = .ok (IntKind.i64, (i : Int)) w := by simp [asIntOf]
  have hin : 0 ≤ (i : Int) ∧ (i : Int) < ((5 : Nat) : Int) := by omega
  have h3 : (typeInfo 62).run Try.prog w = .ok ie w := by simp [typeInfo, hie]
  have ha : (isAgg 62).run Try.prog w = .ok true w := by simp [isAgg, run_underlying Try.underlying62]
  have he : (FR .u64 10 (sw s)).extract (i * 2) (i * 2 + 2) = FR .u64 2 (wd (s i)) := by
    apply Array.ext_getElem?
    intro j
    rw [Array.getElem?_extract, FR_size]
    by_cases hj : j < 2
    · rw [if_pos (by omega), FR_at _ _ _ _ (by omega), FR_at _ _ _ _ hj]
      unfold sw
      rw [show (i * 2 + j) / 2 = i by omega, show (i * 2 + j) % 2 = j by omega]
    · rw [if_neg (by omega), FR_out _ _ _ _ hj]
  simp only [Instr.index, Sem.run_bind, h1, Result.andThen_ok, run_underlying Try.underlying63, if_pos hin, sizeOf, h3, hs, Sem.run_pure, Int.toNat_natCast, part, ha, he, if_true]
theorem info63 : (Try.prog.info? 63).map (·.size) = some 10 := by kernel_rfl
def ZRel3 (w : World) (f g : Nat → Int) (bl : Nat) (v52 v10 : Value) (wr : World) : Prop :=
  ∃ i : Nat, i ≤ 5 ∧ v52 = .int .i64 (i : Int) ∧ v10 = .int .u64 (mc f g i) ∧ Below w.heap.size w wr ∧ Row wr (w.heap.size + 1 + 1) .u64 5 (fun _ => 0) 27 ∧ Row wr bl .u64 5 (fun j => if j < i then mulL f g j else 0) 25
theorem elem_mul_calls (f g : Nat → Int) (w : World) (hf : Lm f) (hg : Lm g) :
    Calls Try.prog 26 #[.agg (FR .u64 5 f), .agg (FR .u64 5 g)] w fun e w' => e = .returned (.agg (FR .u64 5 (mulE f g))) ∧ Below w.heap.size w w' := by
  have HF := Aside0.mk hf
  have HG := Aside0.mk hg
  clear hf hg
  go_enter Try.func26, Try.ntmps26
  have HB0 := Aside0.mk (bel_four5 w (.cells (FR .u64 5 f) 27) (.cells (FR .u64 5 g) 27) (.cells (FR .u64 5 fun _ => 0) 27) (.cells (FR .u64 10 fun _ => 0) 63))
  have HR0 : Aside0 (Row ((((w.alloc (.cells (FR .u64 5 f) 27)).alloc (.cells (FR .u64 5 g) 27)).alloc (.cells (FR .u64 5 fun _ => 0) 27)).alloc (.cells (FR .u64 10 fun _ => 0) 63)) w.heap.size .u64 5 f 27) := ⟨(((Row.new w .u64 5 f 27).alloc _).alloc _).alloc _⟩
  have HR1 : Aside0 (Row ((((w.alloc (.cells (FR .u64 5 f) 27)).alloc (.cells (FR .u64 5 g) 27)).alloc (.cells (FR .u64 5 fun _ => 0) 27)).alloc (.cells (FR .u64 10 fun _ => 0) 63)) (w.heap.size + 1) .u64 5 g 27) := ⟨Row.alloc (Row.alloc (show Row ((w.alloc (.cells (FR .u64 5 f) 27)).alloc (.cells (FR .u64 5 g) 27)) (w.heap.size + 1) .u64 5 g 27 from heap_alloc2_new w _ _) _) _⟩
  have HR2 : Aside0 (Row ((((w.alloc (.cells (FR .u64 5 f) 27)).alloc (.cells (FR .u64 5 g) 27)).alloc (.cells (FR .u64 5 fun _ => 0) 27)).alloc (.cells (FR .u64 10 fun _ => 0) 63)) (w.heap.size + 1 + 1) .u64 5 (fun _ => 0) 27) := ⟨Row.alloc (show Row (((w.alloc (.cells (FR .u64 5 f) 27)).alloc (.cells (FR .u64 5 g) 27)).alloc (.cells (FR .u64 5 fun _ => 0) 27)) (w.heap.size + 1 + 1) .u64 5 (fun _ => 0) 27 from three_new w _ _ _) _⟩
  have HR3 : Aside0 (Row ((((w.alloc (.cells (FR .u64 5 f) 27)).alloc (.cells (FR .u64 5 g) 27)).alloc (.cells (FR .u64 5 fun _ => 0) 27)).alloc (.cells (FR .u64 10 fun _ => 0) 63)) (w.heap.size + 1 + 1 + 1) .u64 10 (fun _ => 0) 63) := ⟨four_new5 w _ _ _ _⟩
  go_wp2_with fail
  go_loopw [16] (fun v16 wr => SRel1 w f g v16 wr) (fun v _ => 5 - (intOf v).toNat)
  case atStart => exact ⟨0, by omega, rfl, HB0.out, HR0.out, HR1.out, HR2.out, row_eq HR3.out (fun j _ => sw_zero f g j)⟩
  case round =>
    clear HB0 HR0 HR1 HR2 HR3
    obtain ⟨i, hi, rfl, hb, hr, hg, hz, ht⟩ := hrel
    have HB := Aside0.mk hb
    have HR := Aside0.mk hr
    have HR2 := Aside0.mk hg
    have HZ := Aside0.mk hz
    have HT := Aside0.mk ht
    have hl1 := hr.lt
    have hl2 := hg.lt
    have hl3 := hz.lt
    have hl4 := ht.lt
    clear hb hr hg hz ht
    rcases Nat.lt_or_ge i 5 with h16 | h16
    · have hlt : ((i : Int) < 5) = True := eq_true (by omega)
      go_wp2_with fail
      go_loopw [19] (fun v19 wr => SRel2 w f g i v19 wr) (fun v _ => 5 - (intOf v).toNat)
      case atStart => exact ⟨0, by omega, rfl, HB.out, HR.out, HR2.out, HZ.out, HT.out⟩
      case round =>
        clear HB HR HR2 HZ HT
        obtain ⟨k, hk, rfl, hb, hr, hg, hz, ht⟩ := hrel
        have HB := Aside0.mk hb
        have HR := Aside0.mk hr
        have HR2 := Aside0.mk hg
        have HZ := Aside0.mk hz
        have HT := Aside0.mk ht
        rcases Nat.lt_or_ge k 5 with h17 | h17
        · have hltk : ((k : Int) < 5) = True := eq_true (by omega)
          have hij := ij_nat5 i k
          obtain ⟨q1, q2, q3⟩ := m5_wraps i k h16 h17
          have k0 := hr.cell i (by omega)
          have k1 := hg.cell k (by omega)
          have hj5 : (i + k) % 5 < 5 := by omega
          have hc5 : (((i : Int) + (k : Int)) % 5 < 5) = True := eq_true (by omega)
          have hc0 : (0 ≤ ((i : Int) + (k : Int)) % 5) = True := eq_true (by omega)
          have hcn : (((i : Int) + (k : Int)) % 5).toNat = (i + k) % 5 := by omega
          have hxb := xk_b HF.out i k h16
          have hsb := sN_b f g HF.out HG.out (5 * i + k) (by omega) ((i + k) % 5)
          have hpb := xprod_b hxb (HG.out.b k h17)
          have hgb := HG.out.b k h17
          have HP : Aside0 (∀ w, Calls Try.prog 40 #[.agg (FR .u64 2 (wd (sN f g (5 * i + k) ((i + k) % 5)))), .int .u64 (xk f i k), .int .u64 (g k)] w fun e w' => e = .returned (.agg (FR .u64 2 (wd (sN f g (5 * i + k) ((i + k) % 5) + xk f i k * g k)))) ∧ Below w.heap.size w w') := ⟨fun w => plus_c _ _ _ w (by omega) (by omega) (by omega) (by omega)⟩
          have HST := Aside0.mk (sN_step f g i k h17)
          clear hb hr hg hz ht hxb hsb hpb hgb
          rcases Nat.lt_or_ge (i + k) 5 with hik | hik
          · have hxk : xk f i k = f i := by unfold xk; rw [if_neg (by omega)]
            rw [hxk] at HP HST
            clear hxk
            have hge : ((i : Int) + (k : Int) ≥ 5) = False := eq_false (by omega)
            have hge2 : (5 ≤ (i : Int) + (k : Int)) = False := eq_false (by omega)
            go_wp2_with fail
            have hh : Row wr.drew (w.heap.size + 1) .u64 5 g 27 ∧ Row wr.drew (w.heap.size + 1 + 1 + 1) .u64 10 (sw (sN f g (5 * i + k))) 63 := ⟨HR2.out, HT.out⟩
            have HBd := Aside0.mk HB.out.drew
            have HRd : Aside0 (Row wr.drew w.heap.size .u64 5 f 27) := ⟨HR.out⟩
            have HZd : Aside0 (Row wr.drew (w.heap.size + 1 + 1) .u64 5 (fun _ => 0) 27) := ⟨HZ.out⟩
            refine start_ (n := 18) (S := (fun w' => Row w' (w.heap.size + 1) .u64 5 g 27 ∧ Row w' (w.heap.size + 1 + 1 + 1) .u64 10 (sw (sN f g (5 * i + k))) 63)) (ds := [17]) #[false, false, false, false, false, false, false, false, false, false, false, false, false, false, false, false, false, false] (by kernel_rfl) rfl rfl hh (fun hHeld => ?_); refine with_tabW tab2611 bits2611 (fun HT_ HW_ => ?_)
            generalize wr.drew = w6 at HBd hHeld hh HRd HZd ⊢
            clear hh
            refine pure_ (i := 0) (N := some 32) (v := ?_) (a' := ?_) #[true, false, false, false, false, false, false, false, false, false, false, false, false, false, false, false, false, false] rfl rfl (any_of HT_.out (by kernel_rfl)) (fun _ _ _ h => h) (Or.inl ⟨by rfl, ?_⟩) ?_ ?_
            rotate_left
            · intro w'
              go_simp
              with_reducible rfl
            rotate_left
            · simp only [Act.put, List.setIfInBounds_toArray, List.set_cons_zero, List.set_cons_succ, i64_w, i32_w]
              rfl
            refine pure_ (i := 1) (N := some 33) (v := ?_) (a' := ?_) #[true, true, false, false, false, false, false, false, false, false, false, false, false, false, false, false, false, false] rfl rfl (any_of HT_.out (by kernel_rfl)) (fun _ _ _ h => h) (Or.inl ⟨by rfl, ?_⟩) ?_ ?_
            rotate_left
            · intro w'
              go_simp
              with_reducible rfl
            rotate_left
            · simp only [Act.put, List.setIfInBounds_toArray, List.set_cons_zero, List.set_cons_succ, i64_w, i32_w]
              rfl
            refine pure_ (i := 2) (N := some 34) (v := ?_) (a' := ?_) #[true, true, true, false, false, false, false, false, false, false, false, false, false, false, false, false, false, false] rfl rfl (any_of HT_.out (by kernel_rfl)) (fun _ _ _ h => h) (Or.inl ⟨by rfl, ?_⟩) ?_ ?_
            rotate_left
            · intro w'
              go_simp
              with_reducible rfl
            rotate_left
            · simp only [Act.put, List.setIfInBounds_toArray, List.set_cons_zero, List.set_cons_succ, i64_w, i32_w]
              rfl
            refine pure_ (i := 3) (N := some 35) (v := ?_) (a' := ?_) #[true, true, true, true, false, false, false, false, false, false, false, false, false, false, false, false, false, false] rfl rfl (any_of HT_.out (by kernel_rfl)) (fun _ _ _ h => h) (Or.inl ⟨by rfl, ?_⟩) ?_ ?_
            rotate_left
            · intro w'
              go_simp
              with_reducible rfl
            rotate_left
            · simp only [Act.put, List.setIfInBounds_toArray, List.set_cons_zero, List.set_cons_succ, i64_w, i32_w]
              rfl
            refine pure_ (i := 4) (N := some 36) (v := ?_) (a' := ?_) #[true, true, true, true, true, false, false, false, false, false, false, false, false, false, false, false, false, false] rfl rfl (any_of HT_.out (by kernel_rfl)) (fun _ _ _ h => h) (Or.inl ⟨by rfl, ?_⟩) ?_ ?_
            rotate_left
            · intro w'
              go_simp
              with_reducible rfl
            rotate_left
            · simp only [Act.put, List.setIfInBounds_toArray, List.set_cons_zero, List.set_cons_succ, i64_w, i32_w]
              rfl
            refine pure_ (i := 5) (N := some 37) (v := ?_) (a' := ?_) #[true, true, true, true, true, true, false, false, false, false, false, false, false, false, false, false, false, false] rfl rfl (any_of HT_.out (by kernel_rfl)) (fun _ _ _ h => h) (Or.inl ⟨by rfl, ?_⟩) ?_ ?_
            rotate_left
            · intro w'
              go_simp
              with_reducible rfl
            rotate_left
            · simp only [Act.put, List.setIfInBounds_toArray, List.set_cons_zero, List.set_cons_succ, i64_w, i32_w]
              rfl
            refine pure_ (i := 6) (N := some 38) (v := ?_) (a' := ?_) #[true, true, true, true, true, true, true, false, false, false, false, false, false, false, false, false, false, false] rfl rfl (any_of HT_.out (by kernel_rfl)) (fun _ _ _ h => h) (Or.inl ⟨by rfl, ?_⟩) ?_ ?_
            rotate_left
            · intro w'
              go_simp
              with_reducible rfl
            rotate_left
            · simp only [Act.put, List.setIfInBounds_toArray, List.set_cons_zero, List.set_cons_succ, i64_w, i32_w]
              rfl
            refine pure_ (i := 7) (N := some 39) (v := ?_) (a' := ?_) #[true, true, true, true, true, true, true, true, false, false, false, false, false, false, false, false, false, false] rfl rfl (any_of HT_.out (by kernel_rfl)) (fun _ _ _ h => h) (Or.inl ⟨by rfl, ?_⟩) ?_ ?_
            rotate_left
            · intro w'
              go_simp
              with_reducible rfl
            rotate_left
            · simp only [Act.put, List.setIfInBounds_toArray, List.set_cons_zero, List.set_cons_succ, i64_w, i32_w]
              rfl
            refine pure_ (i := 10) (N := some 42) (v := ?_) (a' := ?_) #[true, true, true, true, true, true, true, true, false, false, true, false, false, false, false, false, false, false] rfl rfl (any_of HT_.out (by kernel_rfl)) (fun _ _ _ h => h) (Or.inl ⟨by rfl, ?_⟩) ?_ ?_
            rotate_left
            · intro w'
              go_simp
              with_reducible rfl
            rotate_left
            · simp only [Act.put, List.setIfInBounds_toArray, List.set_cons_zero, List.set_cons_succ, i64_w, i32_w]
              rfl
            refine pure_ (i := 11) (N := some 43) (v := ?_) (a' := ?_) #[true, true, true, true, true, true, true, true, false, false, true, true, false, false, false, false, false, false] rfl rfl (any_of HT_.out (by kernel_rfl)) (fun _ _ _ h => h) (Or.inl ⟨by rfl, ?_⟩) ?_ ?_
            rotate_left
            · intro w'
              go_simp
              with_reducible rfl
            rotate_left
            · simp only [Act.put, List.setIfInBounds_toArray, List.set_cons_zero, List.set_cons_succ, i64_w, i32_w]
              rfl
            refine take_ (i := 8) (N := some 40) (v := ?_) (a' := ?_) #[true, true, true, true, true, true, true, true, true, false, true, true, false, false, false, false, false, false] rfl rfl (take_ofW HT_.out HW_.out (by kernel_rfl)) (fun _ _ _ h => h) (Or.inl ⟨by rfl, ?_⟩) hHeld ?_ ?_
            rotate_left
            · intro w' hsw
              go_simp
              with_reducible rfl
            rotate_left
            · simp only [Act.put, List.setIfInBounds_toArray, List.set_cons_zero, List.set_cons_succ, i64_w, i32_w]
              rfl
            refine take_ (i := 9) (N := some 41) (v := ?_) (a' := ?_) #[true, true, true, true, true, true, true, true, true, true, true, true, false, false, false, false, false, false] rfl rfl (take_ofW HT_.out HW_.out (by kernel_rfl)) (fun _ _ _ h => h) (Or.inl ⟨by rfl, ?_⟩) hHeld ?_ ?_
            rotate_left
            · intro w' hsw
              refine exec_load2 (x := .tmp 40) (off := (i + k) % 5 * 2) hsw.2 hj5 (by omega) ?_ ?_ <;> rfl
            rotate_left
            · simp only [Act.put, List.setIfInBounds_toArray, List.set_cons_zero, List.set_cons_succ, i64_w, i32_w]
              rfl
            refine take_ (i := 12) (N := some 44) (v := ?_) (a' := ?_) #[true, true, true, true, true, true, true, true, true, true, true, true, true, false, false, false, false, false] rfl rfl (take_ofW HT_.out HW_.out (by kernel_rfl)) (fun _ _ _ h => h) (Or.inl ⟨by rfl, ?_⟩) hHeld ?_ ?_
            rotate_left
            · intro w' hsw
              go_simp
              with_reducible rfl
            rotate_left
            · simp only [Act.put, List.setIfInBounds_toArray, List.set_cons_zero, List.set_cons_succ, i64_w, i32_w]
              rfl
            refine take_ (i := 13) (N := some 45) (v := ?_) (a' := ?_) #[true, true, true, true, true, true, true, true, true, true, true, true, true, true, false, false, false, false] rfl rfl (take_ofW HT_.out HW_.out (by kernel_rfl)) (fun _ _ _ h => h) (Or.inl ⟨by rfl, ?_⟩) hHeld ?_ ?_
            rotate_left
            · intro w' hsw
              go_simp
              with_reducible rfl
            rotate_left
            · simp only [Act.put, List.setIfInBounds_toArray, List.set_cons_zero, List.set_cons_succ, i64_w, i32_w]
              rfl
            refine take_ (i := 14) (N := some 46) (v := ?_) (a' := ?_) #[true, true, true, true, true, true, true, true, true, true, true, true, true, true, true, false, false, false] rfl rfl (take_ofW HT_.out HW_.out (by kernel_rfl)) (fun _ _ _ h => h) (Or.inl ⟨by rfl, ?_⟩) hHeld ?_ ?_
            rotate_left
            · intro w' hsw
              have kg := hsw.1.cell k h17
              go_simp
              with_reducible rfl
            rotate_left
            · simp only [Act.put, List.setIfInBounds_toArray, List.set_cons_zero, List.set_cons_succ, i64_w, i32_w]
              rfl
            refine one_ (i := 15) (N := some 47) #[true, true, true, true, true, true, true, true, true, true, true, true, true, true, true, true, false, false] rfl rfl (one_of HT_.out (by kernel_rfl)) (by decide) (fun K hK => ?_)
            refine goes_ Try.func40 rfl rfl #[.agg (FR .u64 2 (wd (sN f g (5 * i + k) ((i + k) % 5)))), .int .u64 (f i), .int .u64 (g k)] rfl rfl rfl (by simp only [List.map_toArray, List.map_cons, List.map_nil]; rfl) ((HP.out _).mono ?_)
            rintro e wc1 ⟨rfl, hb⟩
            have hSn : Row wc1 (w.heap.size + 1) .u64 5 g 27 ∧ Row wc1 (w.heap.size + 1 + 1 + 1) .u64 10 (sw (sN f g (5 * i + k))) 63 := ⟨hHeld.1.below hb hHeld.1.lt, hHeld.2.below hb hHeld.2.lt⟩
            have HBc1 := Aside0.mk (HBd.out.trans (hb.mono HBd.out.size))
            have HRc := Aside0.mk (HRd.out.below hb HRd.out.lt)
            have HZc := Aside0.mk (HZd.out.below hb HZd.out.lt)
            clear hb
            refine ⟨_, rfl, hK.out _ _ hSn (fun hHeld => ?_)⟩
            clear hSn
            clear hK K
            refine norm_ (a' := ?_) ?_ ?_
            rotate_left
            · show Act.put _ (some 47) _ = _
              simp only [Act.put, List.setIfInBounds_toArray, List.set_cons_zero, List.set_cons_succ, i64_w, i32_w]
              rfl
            refine take_ (i := 16) (N := some 48) (v := ?_) (a' := ?_) #[true, true, true, true, true, true, true, true, true, true, true, true, true, true, true, true, true, false] rfl rfl (take_ofW HT_.out HW_.out (by kernel_rfl)) (fun _ _ _ h => h) (Or.inl ⟨by rfl, ?_⟩) hHeld ?_ ?_
            rotate_left
            · intro w' hsw
              go_simp
              with_reducible rfl
            rotate_left
            · simp only [Act.put, List.setIfInBounds_toArray, List.set_cons_zero, List.set_cons_succ, i64_w, i32_w]
              rfl
            refine last_ (i := 17) (N := none) #[true, true, true, true, true, true, true, true, true, true, true, true, true, true, true, true, true, true] rfl rfl (one_of HT_.out (by kernel_rfl)) (by decide) (fun K hK => ?_)
            refine oper_store2 (off := (i + k) % 5 * 2) (sN f g (5 * i + k) ((i + k) % 5) + (f i) * g k) hHeld.2 hj5 (by omega) rfl rfl rfl rfl rfl ?_
            intro wk hs hr
            have HTk := Aside0.mk hr
            have HGk := Aside0.mk (hHeld.1.stored hs (by omega))
            have HBk := Aside0.mk (hs.bel _ _ (by omega) HBc1.out)
            have HSk := Aside0.mk hs
            have hHc := hHeld
            clear hs hr
            refine hK.out _ _ ?_
            clear hK K
            refine done_ (done_of HT_.out (by kernel_rfl)) ?_
            try go_wp2
            refine ⟨⟨k + 1, by omega, rfl, HBk.out, HRc.out.stored HSk.out (by omega), HGk.out, HZc.out.stored HSk.out (by omega), ?_⟩, meas_up 5 k (by omega)⟩
            rw [HST.out]
            exact HTk.out
          · have hxk : xk f i k = f i * 19 := by unfold xk; rw [if_pos (by omega)]
            rw [hxk] at HP HST
            clear hxk
            have hfb := HF.out.b i h16
            have hw19 : IntKind.u64.wrap (f i * 19) = f i * 19 := u64w _ (by omega) (by omega)
            clear hfb
            have hge : ((i : Int) + (k : Int) ≥ 5) = True := eq_true (by omega)
            have hge2 : (5 ≤ (i : Int) + (k : Int)) = True := eq_true (by omega)
            go_wp2_with fail
            have hh : Row wr.drew (w.heap.size + 1) .u64 5 g 27 ∧ Row wr.drew (w.heap.size + 1 + 1 + 1) .u64 10 (sw (sN f g (5 * i + k))) 63 := ⟨HR2.out, HT.out⟩
            have HBd := Aside0.mk HB.out.drew
            have HRd : Aside0 (Row wr.drew w.heap.size .u64 5 f 27) := ⟨HR.out⟩
            have HZd : Aside0 (Row wr.drew (w.heap.size + 1 + 1) .u64 5 (fun _ => 0) 27) := ⟨HZ.out⟩
            refine start_ (n := 18) (S := (fun w' => Row w' (w.heap.size + 1) .u64 5 g 27 ∧ Row w' (w.heap.size + 1 + 1 + 1) .u64 10 (sw (sN f g (5 * i + k))) 63)) (ds := [17]) #[false, false, false, false, false, false, false, false, false, false, false, false, false, false, false, false, false, false] (by kernel_rfl) rfl rfl hh (fun hHeld => ?_); refine with_tabW tab2611 bits2611 (fun HT_ HW_ => ?_)
            generalize wr.drew = w6 at HBd hHeld hh HRd HZd ⊢
            clear hh
            refine pure_ (i := 0) (N := some 32) (v := ?_) (a' := ?_) #[true, false, false, false, false, false, false, false, false, false, false, false, false, false, false, false, false, false] rfl rfl (any_of HT_.out (by kernel_rfl)) (fun _ _ _ h => h) (Or.inl ⟨by rfl, ?_⟩) ?_ ?_
            rotate_left
            · intro w'
              go_simp
              with_reducible rfl
            rotate_left
            · simp only [Act.put, List.setIfInBounds_toArray, List.set_cons_zero, List.set_cons_succ, i64_w, i32_w]
              rfl
            refine pure_ (i := 1) (N := some 33) (v := ?_) (a' := ?_) #[true, true, false, false, false, false, false, false, false, false, false, false, false, false, false, false, false, false] rfl rfl (any_of HT_.out (by kernel_rfl)) (fun _ _ _ h => h) (Or.inl ⟨by rfl, ?_⟩) ?_ ?_
            rotate_left
            · intro w'
              go_simp
              with_reducible rfl
            rotate_left
            · simp only [Act.put, List.setIfInBounds_toArray, List.set_cons_zero, List.set_cons_succ, i64_w, i32_w]
              rfl
            refine pure_ (i := 2) (N := some 34) (v := ?_) (a' := ?_) #[true, true, true, false, false, false, false, false, false, false, false, false, false, false, false, false, false, false] rfl rfl (any_of HT_.out (by kernel_rfl)) (fun _ _ _ h => h) (Or.inl ⟨by rfl, ?_⟩) ?_ ?_
            rotate_left
            · intro w'
              go_simp
              with_reducible rfl
            rotate_left
            · simp only [Act.put, List.setIfInBounds_toArray, List.set_cons_zero, List.set_cons_succ, i64_w, i32_w]
              rfl
            refine pure_ (i := 3) (N := some 35) (v := ?_) (a' := ?_) #[true, true, true, true, false, false, false, false, false, false, false, false, false, false, false, false, false, false] rfl rfl (any_of HT_.out (by kernel_rfl)) (fun _ _ _ h => h) (Or.inl ⟨by rfl, ?_⟩) ?_ ?_
            rotate_left
            · intro w'
              go_simp
              with_reducible rfl
            rotate_left
            · simp only [Act.put, List.setIfInBounds_toArray, List.set_cons_zero, List.set_cons_succ, i64_w, i32_w]
              rfl
            refine pure_ (i := 4) (N := some 36) (v := ?_) (a' := ?_) #[true, true, true, true, true, false, false, false, false, false, false, false, false, false, false, false, false, false] rfl rfl (any_of HT_.out (by kernel_rfl)) (fun _ _ _ h => h) (Or.inl ⟨by rfl, ?_⟩) ?_ ?_
            rotate_left
            · intro w'
              go_simp
              with_reducible rfl
            rotate_left
            · simp only [Act.put, List.setIfInBounds_toArray, List.set_cons_zero, List.set_cons_succ, i64_w, i32_w]
              rfl
            refine pure_ (i := 5) (N := some 37) (v := ?_) (a' := ?_) #[true, true, true, true, true, true, false, false, false, false, false, false, false, false, false, false, false, false] rfl rfl (any_of HT_.out (by kernel_rfl)) (fun _ _ _ h => h) (Or.inl ⟨by rfl, ?_⟩) ?_ ?_
            rotate_left
            · intro w'
              go_simp
              with_reducible rfl
            rotate_left
            · simp only [Act.put, List.setIfInBounds_toArray, List.set_cons_zero, List.set_cons_succ, i64_w, i32_w]
              rfl
            refine pure_ (i := 6) (N := some 38) (v := ?_) (a' := ?_) #[true, true, true, true, true, true, true, false, false, false, false, false, false, false, false, false, false, false] rfl rfl (any_of HT_.out (by kernel_rfl)) (fun _ _ _ h => h) (Or.inl ⟨by rfl, ?_⟩) ?_ ?_
            rotate_left
            · intro w'
              go_simp
              with_reducible rfl
            rotate_left
            · simp only [Act.put, List.setIfInBounds_toArray, List.set_cons_zero, List.set_cons_succ, i64_w, i32_w]
              rfl
            refine pure_ (i := 7) (N := some 39) (v := ?_) (a' := ?_) #[true, true, true, true, true, true, true, true, false, false, false, false, false, false, false, false, false, false] rfl rfl (any_of HT_.out (by kernel_rfl)) (fun _ _ _ h => h) (Or.inl ⟨by rfl, ?_⟩) ?_ ?_
            rotate_left
            · intro w'
              go_simp
              with_reducible rfl
            rotate_left
            · simp only [Act.put, List.setIfInBounds_toArray, List.set_cons_zero, List.set_cons_succ, i64_w, i32_w]
              rfl
            refine pure_ (i := 10) (N := some 42) (v := ?_) (a' := ?_) #[true, true, true, true, true, true, true, true, false, false, true, false, false, false, false, false, false, false] rfl rfl (any_of HT_.out (by kernel_rfl)) (fun _ _ _ h => h) (Or.inl ⟨by rfl, ?_⟩) ?_ ?_
            rotate_left
            · intro w'
              go_simp
              with_reducible rfl
            rotate_left
            · simp only [Act.put, List.setIfInBounds_toArray, List.set_cons_zero, List.set_cons_succ, i64_w, i32_w]
              rfl
            refine pure_ (i := 11) (N := some 43) (v := ?_) (a' := ?_) #[true, true, true, true, true, true, true, true, false, false, true, true, false, false, false, false, false, false] rfl rfl (any_of HT_.out (by kernel_rfl)) (fun _ _ _ h => h) (Or.inl ⟨by rfl, ?_⟩) ?_ ?_
            rotate_left
            · intro w'
              go_simp
              with_reducible rfl
            rotate_left
            · simp only [Act.put, List.setIfInBounds_toArray, List.set_cons_zero, List.set_cons_succ, i64_w, i32_w]
              rfl
            refine take_ (i := 8) (N := some 40) (v := ?_) (a' := ?_) #[true, true, true, true, true, true, true, true, true, false, true, true, false, false, false, false, false, false] rfl rfl (take_ofW HT_.out HW_.out (by kernel_rfl)) (fun _ _ _ h => h) (Or.inl ⟨by rfl, ?_⟩) hHeld ?_ ?_
            rotate_left
            · intro w' hsw
              go_simp
              with_reducible rfl
            rotate_left
            · simp only [Act.put, List.setIfInBounds_toArray, List.set_cons_zero, List.set_cons_succ, i64_w, i32_w]
              rfl
            refine take_ (i := 9) (N := some 41) (v := ?_) (a' := ?_) #[true, true, true, true, true, true, true, true, true, true, true, true, false, false, false, false, false, false] rfl rfl (take_ofW HT_.out HW_.out (by kernel_rfl)) (fun _ _ _ h => h) (Or.inl ⟨by rfl, ?_⟩) hHeld ?_ ?_
            rotate_left
            · intro w' hsw
              refine exec_load2 (x := .tmp 40) (off := (i + k) % 5 * 2) hsw.2 hj5 (by omega) ?_ ?_ <;> rfl
            rotate_left
            · simp only [Act.put, List.setIfInBounds_toArray, List.set_cons_zero, List.set_cons_succ, i64_w, i32_w]
              rfl
            refine take_ (i := 12) (N := some 44) (v := ?_) (a' := ?_) #[true, true, true, true, true, true, true, true, true, true, true, true, true, false, false, false, false, false] rfl rfl (take_ofW HT_.out HW_.out (by kernel_rfl)) (fun _ _ _ h => h) (Or.inl ⟨by rfl, ?_⟩) hHeld ?_ ?_
            rotate_left
            · intro w' hsw
              go_simp
              with_reducible rfl
            rotate_left
            · simp only [Act.put, List.setIfInBounds_toArray, List.set_cons_zero, List.set_cons_succ, i64_w, i32_w]
              rfl
            refine take_ (i := 13) (N := some 45) (v := ?_) (a' := ?_) #[true, true, true, true, true, true, true, true, true, true, true, true, true, true, false, false, false, false] rfl rfl (take_ofW HT_.out HW_.out (by kernel_rfl)) (fun _ _ _ h => h) (Or.inl ⟨by rfl, ?_⟩) hHeld ?_ ?_
            rotate_left
            · intro w' hsw
              go_simp
              with_reducible rfl
            rotate_left
            · simp only [Act.put, List.setIfInBounds_toArray, List.set_cons_zero, List.set_cons_succ, i64_w, i32_w]
              rfl
            refine take_ (i := 14) (N := some 46) (v := ?_) (a' := ?_) #[true, true, true, true, true, true, true, true, true, true, true, true, true, true, true, false, false, false] rfl rfl (take_ofW HT_.out HW_.out (by kernel_rfl)) (fun _ _ _ h => h) (Or.inl ⟨by rfl, ?_⟩) hHeld ?_ ?_
            rotate_left
            · intro w' hsw
              have kg := hsw.1.cell k h17
              go_simp
              with_reducible rfl
            rotate_left
            · simp only [Act.put, List.setIfInBounds_toArray, List.set_cons_zero, List.set_cons_succ, i64_w, i32_w]
              rfl
            refine one_ (i := 15) (N := some 47) #[true, true, true, true, true, true, true, true, true, true, true, true, true, true, true, true, false, false] rfl rfl (one_of HT_.out (by kernel_rfl)) (by decide) (fun K hK => ?_)
            refine goes_ Try.func40 rfl rfl #[.agg (FR .u64 2 (wd (sN f g (5 * i + k) ((i + k) % 5)))), .int .u64 (f i * 19), .int .u64 (g k)] rfl rfl rfl (by simp only [List.map_toArray, List.map_cons, List.map_nil]; rfl) ((HP.out _).mono ?_)
            rintro e wc1 ⟨rfl, hb⟩
            have hSn : Row wc1 (w.heap.size + 1) .u64 5 g 27 ∧ Row wc1 (w.heap.size + 1 + 1 + 1) .u64 10 (sw (sN f g (5 * i + k))) 63 := ⟨hHeld.1.below hb hHeld.1.lt, hHeld.2.below hb hHeld.2.lt⟩
            have HBc1 := Aside0.mk (HBd.out.trans (hb.mono HBd.out.size))
            have HRc := Aside0.mk (HRd.out.below hb HRd.out.lt)
            have HZc := Aside0.mk (HZd.out.below hb HZd.out.lt)
            clear hb
            refine ⟨_, rfl, hK.out _ _ hSn (fun hHeld => ?_)⟩
            clear hSn
            clear hK K
            refine norm_ (a' := ?_) ?_ ?_
            rotate_left
            · show Act.put _ (some 47) _ = _
              simp only [Act.put, List.setIfInBounds_toArray, List.set_cons_zero, List.set_cons_succ, i64_w, i32_w]
              rfl
            refine take_ (i := 16) (N := some 48) (v := ?_) (a' := ?_) #[true, true, true, true, true, true, true, true, true, true, true, true, true, true, true, true, true, false] rfl rfl (take_ofW HT_.out HW_.out (by kernel_rfl)) (fun _ _ _ h => h) (Or.inl ⟨by rfl, ?_⟩) hHeld ?_ ?_
            rotate_left
            · intro w' hsw
              go_simp
              with_reducible rfl
            rotate_left
            · simp only [Act.put, List.setIfInBounds_toArray, List.set_cons_zero, List.set_cons_succ, i64_w, i32_w]
              rfl
            refine last_ (i := 17) (N := none) #[true, true, true, true, true, true, true, true, true, true, true, true, true, true, true, true, true, true] rfl rfl (one_of HT_.out (by kernel_rfl)) (by decide) (fun K hK => ?_)
            refine oper_store2 (off := (i + k) % 5 * 2) (sN f g (5 * i + k) ((i + k) % 5) + (f i * 19) * g k) hHeld.2 hj5 (by omega) rfl rfl rfl rfl rfl ?_
            intro wk hs hr
            have HTk := Aside0.mk hr
            have HGk := Aside0.mk (hHeld.1.stored hs (by omega))
            have HBk := Aside0.mk (hs.bel _ _ (by omega) HBc1.out)
            have HSk := Aside0.mk hs
            have hHc := hHeld
            clear hs hr
            refine hK.out _ _ ?_
            clear hK K
            refine done_ (done_of HT_.out (by kernel_rfl)) ?_
            try go_wp2
            refine ⟨⟨k + 1, by omega, rfl, HBk.out, HRc.out.stored HSk.out (by omega), HGk.out, HZc.out.stored HSk.out (by omega), ?_⟩, meas_up 5 k (by omega)⟩
            rw [HST.out]
            exact HTk.out
        · obtain rfl : k = 5 := by omega
          clear hb hr hg hz ht
          go_wp2_with fail
          exact ⟨⟨i + 1, by omega, rfl, HB.out, HR.out, HR2.out, HZ.out, HT.out⟩, meas_up 5 i (by omega)⟩
    · obtain rfl : i = 5 := by omega
      have hbo : w.heap.size + 1 + 1 + 1 < wr.heap.size := hl4
      have HN := Aside0.mk (Row.new wr .u64 5 (fun _ => 0) 25)
      have HZ2 := Aside0.mk (HZ.out.alloc (.cells (FR .u64 5 fun _ => 0) 25))
      have HT2 := Aside0.mk (HT.out.alloc (.cells (FR .u64 5 fun _ => 0) 25))
      have HB2 := Aside0.mk (HB.out.alloc (by omega) (.cells (FR .u64 5 fun _ => 0) 25))
      clear HR HR2
      go_wp2_with (refine step_load HT2.out Try.underlying63 info63 rfl rfl rfl rfl ?_)
      generalize wr.heap.size = bl at *
      go_loopw [52, 10] (fun v52 v10 wr' => ZRel3 w f g bl v52 v10 wr') (fun v _ _ => 5 - (intOf v).toNat)
      case atStart => exact ⟨0, by omega, rfl, rfl, HB2.out, HZ2.out, row_eq HN.out (fun j hj => (if_neg (by omega)).symm)⟩
      case round =>
        clear HN HZ2 HT2 HB2 HB HZ HT
        obtain ⟨i, hi, rfl, rfl, hb, hz, ho⟩ := hrel
        have HB := Aside0.mk hb
        have HZ := Aside0.mk hz
        have HO2 := Aside0.mk ho
        have hlz := hz.lt
        have hlo := ho.lt
        clear hb hz ho
        rcases Nat.lt_or_ge i 5 with h5 | h5
        · have hlt : ((i : Int) < 5) = True := eq_true (by omega)
          have hix := index63 (sN f g 25) i h5
          have hix2 : ∀ w, (Instr.index 63 (.agg (FR .u64 10 (sw (sN f g (5 * 5))))) (.int .i64 (i : Int))).run Try.prog w = .ok (.agg (FR .u64 2 (wd (sN f g 25 i)))) w := hix
          have hcb := mc_b f g HF.out HG.out i (by omega)
          have hsb := sN_b f g HF.out HG.out 25 (by omega) i
          have HMS := Aside0.mk (mc_succ f g i)
          have HML : Aside0 (mulL f g i = (sN f g 25 i + mc f g i) % 2251799813685248) := ⟨rfl⟩
          generalize hSe : sN f g 25 i = S at *
          generalize hce : mc f g i = c at *
          have hw0 : wd S 0 = S / 18446744073709551616 := rfl
          have hw1 : wd S 1 = S % 18446744073709551616 := rfl
          have c1 := add64_run (wd S 1) c 0 (by omega) (by omega) (by omega) (by omega)
          have e1 : (wd S 1 + c) % 18446744073709551616 = (S + c) % 18446744073709551616 := by omega
          have e2 : IntKind.u64.wrap (wd S 0 + (wd S 1 + c) / 18446744073709551616) = (S + c) / 18446744073709551616 := by rw [u64w _ (by omega) (by omega)]; omega
          have m1 := mask51 ((S + c) % 18446744073709551616) (by omega) (by omega)
          have e3 : IntKind.u64.wrap ((S + c) / 18446744073709551616 * 8192) = (S + c) / 18446744073709551616 * 8192 := u64w _ (by omega) (by omega)
          have e4 := or13 ((S + c) / 18446744073709551616) ((S + c) % 18446744073709551616 / 2251799813685248) (by omega) (by omega)
          have HE5 : Aside0 ((S + c) / 18446744073709551616 * 8192 + (S + c) % 18446744073709551616 / 2251799813685248 = (S + c) / 2251799813685248) := ⟨by omega⟩
          have HE6 : Aside0 ((S + c) % 18446744073709551616 % 2251799813685248 = (S + c) % 2251799813685248) := ⟨by omega⟩
          clear hcb hsb hw0 hw1 hSe hce hix
          have HNw := Aside0.mk (Row.new wr .u64 2 (fun _ => 0) 62)
          have HZa := Aside0.mk (HZ.out.alloc (.cells (FR .u64 2 fun _ => 0) 62))
          have HOa := Aside0.mk (HO2.out.alloc (.cells (FR .u64 2 fun _ => 0) 62))
          have HBa := Aside0.mk (HB.out.alloc (by omega) (.cells (FR .u64 2 fun _ => 0) 62))
          go_wp2_with (refine step_storeG (wd S) HNw.out info62 rfl rfl rfl rfl rfl ?_; intro w9 hs hr; have HS9 := Aside0.mk hs; have kk0 := hr.cell 0 (by omega); have kk1 := hr.cell 1 (by omega); have ho9 := HOa.out.stored hs (by omega); have HO9 := Aside0.mk ho9; have fi := ho9.fro i; have ki := ho9.cell i (by omega); clear hs hr ho9)
          have HB9 := Aside0.mk (HS9.out.bel _ _ (by omega) HBa.out)
          have HZ9 := Aside0.mk (HZa.out.stored HS9.out (by omega))
          refine ⟨⟨i + 1, by omega, rfl, by rw [HE5.out, HMS.out], bel_set HB9.out ⟨bl, i, none⟩ _ (by simp; omega), HZ9.out.other ⟨bl, i, none⟩ _ (by simp; omega), ?_⟩, meas_up 5 i (by omega)⟩
          rw [← HML.out]
          exact part_step (F := mulL f g) (a := ⟨0, 0, none⟩) HO9.out h5
        · obtain rfl : i = 5 := by omega
          have HO3 := row_eq HO2.out (f' := mulL f g) (fun j hj => if_pos hj)
          have k0 := HO3.cell 0 (by omega)
          have f0 := HO3.fro 0
          have HSB := Aside0.mk (mulS_b f g HF.out HG.out)
          have h5c := mc_five f g HF.out HG.out
          have hb0 := mulL_b f g 0
          have q1 : IntKind.u64.wrap (19 * mc f g 5) = 19 * mc f g 5 := u64w _ (by omega) (by omega)
          have q2 : IntKind.u64.wrap (mulL f g 0 + 19 * mc f g 5) = mulL f g 0 + 19 * mc f g 5 := u64w _ (by omega) (by omega)
          have HRS := Aside0.mk (HO3.set 0 (mulL f g 0 + 19 * mc f g 5) (by omega))
          have HBS := Aside0.mk (bel_set HB.out ⟨bl, 0, none⟩ (.int .u64 (mulL f g 0 + 19 * mc f g 5)) (by simp; omega))
          have HZS := Aside0.mk (HZ.out.other ⟨bl, 0, none⟩ (.int .u64 (mulL f g 0 + 19 * mc f g 5)) (by simp; omega))
          clear h5c hb0 HO2 HO3 HB HZ
          go_wp2_with (refine step_load HRS.out Try.underlying25 info25 rfl rfl rfl rfl ?_)
          refine (carr_calls _ _ HSB.out).mono ?_
          rintro e w1 ⟨rfl, hb⟩
          have HZ1 := Aside0.mk (HZS.out.below hb HZS.out.lt)
          have HB1 := Aside0.mk (HBS.out.trans (hb.mono HBS.out.size))
          clear hb
          go_wp2_with (refine step_storeG _ HZ1.out info27 rfl rfl rfl rfl rfl ?_; intro w9 hs hr; have HS9 := Aside0.mk hs; have HR9 := Aside0.mk hr; clear hs hr)
          refine bodyPost_ret (row_results rfl HR9.out rfl Try.underlying27 rfl info27) rfl ?_
          exact ⟨rfl, HS9.out.bel _ _ (by omega) HB1.out⟩
end Go.Proofs.Ythonoagpiofojaa.P
