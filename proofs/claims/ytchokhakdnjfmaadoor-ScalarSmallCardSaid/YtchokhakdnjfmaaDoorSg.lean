/- scalar.MulAdd, by its walk. -/
import Derived.Test.YtchokhakdnjfmaaDoorSf
namespace Go.Proofs.YtchokhakdnjfmaaDoor.P
set_option linter.unusedVariables false
set_option linter.unusedSimpArgs false
open Go.RowKit Go.Proofs.YtchokhakdnjfmaaDoorW.PrintWords Go.Proofs.YtchokhakdnjfmaaDoorW.PrintLast Go.Proofs.YtchokhakdnjfmaaDoorW.PrintMore
attribute [local go_sem] setCell_drewN
theorem u32w (x : Int) (h : 0 ≤ x ∧ x < 4294967296) : IntKind.u32.wrap x = x := by
  have : x % 4294967296 = x := by omega
  exact this
theorem u8w (x : Int) : IntKind.u8.wrap x = x % 256 := rfl
theorem info64 : (Tryd.prog.info? 49).map (·.size) = some 64 := by kernel_rfl
theorem info4 : (Tryd.prog.info? 32).map (·.size) = some 1 := by kernel_rfl
theorem info8p : (Tryd.prog.info? 5).map (fun i => (i.zero, i.size, i.bytes)) = some (some (.int .u8 0), 1, 1) := by kernel_rfl
theorem index32 (f : Nat → Int) (i : Nat) (hi : i < 32) (w : World) : (Instr.index 23 (.agg (FR .u8 32 f)) (.int .i64 (i : Int))).run Tryd.prog w = .ok (.int .u8 (f i)) w := run_index_FR Tryd.underlying23 Tryd.underlying5 info8 f i hi w
theorem index64 (f : Nat → Int) (i : Nat) (hi : i < 64) (w : World) : (Instr.index 49 (.agg (FR .u32 64 f)) (.int .i64 (i : Int))).run Tryd.prog w = .ok (.int .u32 (f i)) w := run_index_FR Tryd.underlying49 Tryd.underlying32 info4 f i hi w
theorem ij_nat (i k : Nat) : ((i : Int) + (k : Int)).toNat = i + k := by omega
/-- A slice that the call owns, of n bytes. -/
def OwnB (w : World) (base : Nat) (v : Value) (n : Nat) (z : Nat → Int) : Prop := w.ownsRow base 5 1 v n ((List.range n).map fun j => Value.int .u8 (z j))
theorem OwnB.kept {w w' : World} {base n : Nat} {v : Value} {z : Nat → Int} {row : Option Nat} (h : OwnB w base v n z) (hg : w.grownBy w' row) (hr : ∀ k, row = some k → k < base) : OwnB w' base v n z := by
  refine World.ownsRow.kept h hg ?_
  rcases h.2 with ⟨rfl, _⟩ | ⟨g, cap, cur, rfl, hb, _⟩
  · exact .inl rfl
  · refine .inr fun e => ?_
    have := hr g (by rw [← e]; rfl)
    omega
theorem OwnB.bytesAt {w : World} {base n : Nat} {v : Value} {z : Nat → Int} (h : OwnB w base v n z) : ∃ a c, v = .slice a n c ∧ BytesAt w a n z := by
  rcases h.2 with ⟨rfl, rfl⟩ | ⟨g, cap, cur, rfl, hb, hg, hn, hm, hs, ht⟩
  · exact ⟨none, 0, rfl, .inl ⟨rfl, rfl⟩⟩
  · refine ⟨_, cap, rfl, .inr ⟨_, rfl, fun j hj => ?_⟩⟩
    rw [add_zero_at, Nat.zero_add, cell_of_row w g j cur _ _ hg]
    have e : (cur.toList.take (n * 1))[j]? = some (.int .u8 (z j)) := by
      rw [ht]
      simp [hj]
    rw [List.getElem?_take_of_lt (by omega)] at e
    simpa using e
theorem grown_set (w : World) (a : Addr) (v : Value) : w.grownBy (w.setCell a v) (some a.block) :=
  ⟨rfl, rfl, rfl, by simp [World.setCell], fun k _ hk => heap_setCell_other w a k v (fun e => hk (by rw [e]))⟩
theorem OwnB.push {n : Nat} (z : Nat → Int) : ((List.range n).map fun j => Value.int .u8 (z j)) ++ [Value.int .u8 (z n)] = (List.range (n + 1)).map fun j => Value.int .u8 (z j) := by
  rw [List.range_succ]; simp
theorem news_one (w : World) (v : Value) (t : TypeId) : ∀ (j : Nat) (u : Value), [v][j]? = some u → (w.alloc (.cells #[v] t)).cell? ((⟨w.heap.size, 0, none⟩ : Addr).add j) = some u := fun j u h => by
  rw [add_zero_at, Nat.zero_add, cell_of_row _ _ _ _ _ _ (heap_alloc_new w _)]
  simpa using h
theorem news_two (w : World) (v v' : Value) (t : TypeId) : ∀ (j : Nat) (u : Value), [v, v'][j]? = some u → (w.alloc (.cells #[v, v'] t)).cell? ((⟨w.heap.size, 0, none⟩ : Addr).add j) = some u := fun j u h => by
  rw [add_zero_at, Nat.zero_add, cell_of_row _ _ _ _ _ _ (heap_alloc_new w _)]
  simpa using h
def MRow (f g c : Nat → Int) (w : World) (s : Nat) (wr : World) : Prop :=
  Below w.heap.size w wr ∧ Row wr (w.heap.size) .u8 32 f 23 ∧ Row wr (w.heap.size + 1) .u8 32 g 23 ∧ Row wr (w.heap.size + 1 + 1) .u8 32 c 23 ∧ Row wr (w.heap.size + 1 + 1 + 1) .u8 32 (fun _ => 0) 23 ∧ Row wr (w.heap.size + 1 + 1 + 1 + 1) .u32 64 (pS f g s) 49 ∧ wr.heap.size = w.heap.size + 1 + 1 + 1 + 1 + 1
def MRel1 (f g c : Nat → Int) (w : World) (v17 : Value) (wr : World) : Prop := ∃ i : Nat, i ≤ 32 ∧ v17 = .int .i64 (i : Int) ∧ MRow f g c w (32 * i) wr
def MRel2 (f g c : Nat → Int) (w : World) (i : Nat) (v22 : Value) (wr : World) : Prop := ∃ k : Nat, k ≤ 32 ∧ v22 = .int .i64 (k : Int) ∧ MRow f g c w (32 * i + k) wr
def MRel3 (f g c : Nat → Int) (w : World) (v42 v12 v13 : Value) (wr : World) : Prop :=
  ∃ i : Nat, i ≤ 64 ∧ v42 = .int .i64 (i : Int) ∧ v13 = .int .u32 (cy 256 (pH f g c) i) ∧ OwnB wr (w.heap.size + 1 + 1 + 1 + 1 + 1) v12 i (mB f g c) ∧ Below w.heap.size w wr ∧ Row wr (w.heap.size + 1 + 1) .u8 32 c 23 ∧ Row wr (w.heap.size + 1 + 1 + 1) .u8 32 (fun _ => 0) 23 ∧ w.heap.size + 1 + 1 + 1 + 1 + 1 ≤ wr.heap.size
theorem MRow.set {f g c : Nat → Int} {w wr : World} {i k : Nat} (h : MRow f g c w (32 * i + k) wr) (hi : i < 32) (hk : k < 32) : MRow f g c w (32 * i + (k + 1)) (wr.setCell ⟨w.heap.size + 1 + 1 + 1 + 1, i + k, none⟩ (.int .u32 (pS f g (32 * i + k) (i + k) + f i * g k))) := by
  obtain ⟨hb, h0, h1, h2, h3, h4, h5⟩ := h
  refine ⟨bel_set hb _ _ (show w.heap.size ≤ w.heap.size + 1 + 1 + 1 + 1 by omega), h0.other _ _ (show w.heap.size ≠ w.heap.size + 1 + 1 + 1 + 1 by omega), h1.other _ _ (show w.heap.size + 1 ≠ w.heap.size + 1 + 1 + 1 + 1 by omega), h2.other _ _ (show w.heap.size + 1 + 1 ≠ w.heap.size + 1 + 1 + 1 + 1 by omega), h3.other _ _ (show w.heap.size + 1 + 1 + 1 ≠ w.heap.size + 1 + 1 + 1 + 1 by omega), ?_, by rw [← h5]; simp [World.setCell]⟩
  rw [pS_step f g i k hk]
  exact h4.set (i + k) _ (by omega)
set_option maxRecDepth 100000 in
set_option maxHeartbeats 2000000 in
theorem muladd_calls (f g c : Nat → Int) (w : World) (ho : Ord w) (hf : By f) (hg : By g) (hc : By c) :
    Calls Tryd.prog 15 #[.agg (FR .u8 32 f), .agg (FR .u8 32 g), .agg (FR .u8 32 c)] w fun e w' => e = .returned (.agg (FR .u8 32 (dig 256 ((N32 f * N32 g + N32 c) % LL)))) ∧ Below w.heap.size w w' := by
  have HO := Aside0.mk ho
  have HF := Aside0.mk hf
  have HG := Aside0.mk hg
  have HC := Aside0.mk hc
  clear ho hf hg hc
  go_enter Tryd.func15, Tryd.ntmps15
  have hz1 : (w.alloc (.cells (FR .u8 32 f) 23)).heap.size = w.heap.size + 1 := by simp
  have hz2 : ((w.alloc (.cells (FR .u8 32 f) 23)).alloc (.cells (FR .u8 32 g) 23)).heap.size = w.heap.size + 1 + 1 := by simp
  have hz3 : (((w.alloc (.cells (FR .u8 32 f) 23)).alloc (.cells (FR .u8 32 g) 23)).alloc (.cells (FR .u8 32 c) 23)).heap.size = w.heap.size + 1 + 1 + 1 := by simp
  have hz4 : ((((w.alloc (.cells (FR .u8 32 f) 23)).alloc (.cells (FR .u8 32 g) 23)).alloc (.cells (FR .u8 32 c) 23)).alloc (.cells (FR .u8 32 fun _ => 0) 23)).heap.size = w.heap.size + 1 + 1 + 1 + 1 := by simp
  have hz5 : (((((w.alloc (.cells (FR .u8 32 f) 23)).alloc (.cells (FR .u8 32 g) 23)).alloc (.cells (FR .u8 32 c) 23)).alloc (.cells (FR .u8 32 fun _ => 0) 23)).alloc (.cells (FR .u32 64 fun _ => 0) 49)).heap.size = w.heap.size + 1 + 1 + 1 + 1 + 1 := by simp
  have HR0 := Aside0.mk (Row.alloc (Row.alloc (Row.alloc (Row.alloc (show Row (w.alloc (.cells (FR .u8 32 f) 23)) (w.heap.size) .u8 32 f 23 from by have h := (Row.new w .u8 32 f 23); exact h) (.cells (FR .u8 32 g) 23)) (.cells (FR .u8 32 c) 23)) (.cells (FR .u8 32 fun _ => 0) 23)) (.cells (FR .u32 64 fun _ => 0) 49))
  have HR1 := Aside0.mk (Row.alloc (Row.alloc (Row.alloc (show Row ((w.alloc (.cells (FR .u8 32 f) 23)).alloc (.cells (FR .u8 32 g) 23)) (w.heap.size + 1) .u8 32 g 23 from by have h := (Row.new (w.alloc (.cells (FR .u8 32 f) 23)) .u8 32 g 23); rw [hz1] at h; exact h) (.cells (FR .u8 32 c) 23)) (.cells (FR .u8 32 fun _ => 0) 23)) (.cells (FR .u32 64 fun _ => 0) 49))
  have HR2 := Aside0.mk (Row.alloc (Row.alloc (show Row (((w.alloc (.cells (FR .u8 32 f) 23)).alloc (.cells (FR .u8 32 g) 23)).alloc (.cells (FR .u8 32 c) 23)) (w.heap.size + 1 + 1) .u8 32 c 23 from by have h := (Row.new ((w.alloc (.cells (FR .u8 32 f) 23)).alloc (.cells (FR .u8 32 g) 23)) .u8 32 c 23); rw [hz2] at h; exact h) (.cells (FR .u8 32 fun _ => 0) 23)) (.cells (FR .u32 64 fun _ => 0) 49))
  have HR3 := Aside0.mk (Row.alloc (show Row ((((w.alloc (.cells (FR .u8 32 f) 23)).alloc (.cells (FR .u8 32 g) 23)).alloc (.cells (FR .u8 32 c) 23)).alloc (.cells (FR .u8 32 fun _ => 0) 23)) (w.heap.size + 1 + 1 + 1) .u8 32 (fun _ => 0) 23 from by have h := (Row.new (((w.alloc (.cells (FR .u8 32 f) 23)).alloc (.cells (FR .u8 32 g) 23)).alloc (.cells (FR .u8 32 c) 23)) .u8 32 (fun _ => 0) 23); rw [hz3] at h; exact h) (.cells (FR .u32 64 fun _ => 0) 49))
  have HR4 := Aside0.mk (show Row (((((w.alloc (.cells (FR .u8 32 f) 23)).alloc (.cells (FR .u8 32 g) 23)).alloc (.cells (FR .u8 32 c) 23)).alloc (.cells (FR .u8 32 fun _ => 0) 23)).alloc (.cells (FR .u32 64 fun _ => 0) 49)) (w.heap.size + 1 + 1 + 1 + 1) .u32 64 (fun _ => 0) 49 from by have h := (Row.new ((((w.alloc (.cells (FR .u8 32 f) 23)).alloc (.cells (FR .u8 32 g) 23)).alloc (.cells (FR .u8 32 c) 23)).alloc (.cells (FR .u8 32 fun _ => 0) 23)) .u32 64 (fun _ => 0) 49); rw [hz4] at h; exact h)
  have HB0 := Aside0.mk (Below.alloc (Below.alloc (Below.alloc (Below.alloc (Below.alloc (Below.refl w.heap.size w) (by omega) (.cells (FR .u8 32 f) 23)) (by simp; try omega) (.cells (FR .u8 32 g) 23)) (by simp; try omega) (.cells (FR .u8 32 c) 23)) (by simp; try omega) (.cells (FR .u8 32 fun _ => 0) 23)) (by simp; try omega) (.cells (FR .u32 64 fun _ => 0) 49))
  have HM0 : Aside0 (MRow f g c w (32 * 0) (((((w.alloc (.cells (FR .u8 32 f) 23)).alloc (.cells (FR .u8 32 g) 23)).alloc (.cells (FR .u8 32 c) 23)).alloc (.cells (FR .u8 32 fun _ => 0) 23)).alloc (.cells (FR .u32 64 fun _ => 0) 49))) := ⟨HB0.out, HR0.out, HR1.out, HR2.out, HR3.out, HR4.out, hz5⟩
  clear hz1 hz2 hz3 hz4 hz5 HB0 HR1 HR2 HR3 HR4
  go_wp2_with (refine step_load HR0.out Tryd.underlying23 info32 rfl rfl rfl rfl ?_)
  clear HR0
  go_loopw [17] (fun v17 wr => MRel1 f g c w v17 wr) (fun v _ => 32 - (intOf v).toNat)
  case atStart => exact ⟨0, by omega, rfl, HM0.out⟩
  case round =>
    clear HM0
    obtain ⟨i, hi, rfl, hm⟩ := hrel
    have HM := Aside0.mk hm
    have HRg := Aside0.mk hm.2.2.1
    have HRs := Aside0.mk hm.2.2.2.2.2.1
    clear hm
    rcases Nat.lt_or_ge i 32 with h32 | h32
    · have hlt : ((i : Int) < 32) = True := eq_true (by omega)
      have hix := index32 f i h32
      go_wp2_with (refine step_load HRg.out Tryd.underlying23 info32 rfl rfl rfl rfl ?_)
      clear hix
      go_loopw [22] (fun v22 wr => MRel2 f g c w i v22 wr) (fun v _ => 32 - (intOf v).toNat)
      case atStart => exact ⟨0, by omega, rfl, HM.out⟩
      case round =>
        clear HM HRg HRs
        obtain ⟨k, hk, rfl, hm⟩ := hrel
        have HM := Aside0.mk hm
        have ht := hm.2.2.2.2.2.1
        clear hm
        rcases Nat.lt_or_ge k 32 with h33 | h33
        · have hltk : ((k : Int) < 32) = True := eq_true (by omega)
          have hlt63 : ((i : Int) + (k : Int) < 64) = True := eq_true (by omega)
          have hij := ij_nat i k
          have hix := index32 g k h33
          have q1 : wrap64 ((i : Int) + (k : Int)) = (i : Int) + (k : Int) := w64 _ (by omega)
          have q2 : IntKind.i64.wrap ((i : Int) + (k : Int)) = (i : Int) + (k : Int) := i64w _ (by omega)
          have k2 := ht.cell (i + k) (by omega)
          have f2 := ht.fro (i + k)
          have hp := byte_mul (HF.out i h32) (HG.out k h33)
          have hs := pS_b f g HF.out HG.out (32 * i + k) (by omega) (i + k)
          have hfi := HF.out i h32
          have hgk := HG.out k h33
          have HS := Aside0.mk (HM.out.set h32 h33)
          have q3 : IntKind.u32.wrap (f i) = f i := u32w _ (by omega)
          have q4 : IntKind.u32.wrap (g k) = g k := u32w _ (by omega)
          generalize hfg : f i * g k = p at *
          have q5 : IntKind.u32.wrap p = p := u32w _ (by omega)
          have q6 : IntKind.u32.wrap (pS f g (32 * i + k) (i + k) + p) = pS f g (32 * i + k) (i + k) + p := u32w _ (by omega)
          clear ht hp hs hfi hgk
          go_wp2_with fail
          exact ⟨⟨k + 1, by omega, rfl, HS.out⟩, meas_up 32 k h33⟩
        · obtain rfl : k = 32 := by omega
          clear ht
          go_wp2_with fail
          exact ⟨⟨i + 1, by omega, rfl, HM.out⟩, meas_up 32 i h32⟩
    · obtain rfl : i = 32 := by omega
      clear HRg
      obtain ⟨ix, hinf, hx1, hx2, hx3⟩ := info_parts info8p
      have HI := Aside0.mk hinf
      have HX1 := Aside0.mk hx1
      have HX2 := Aside0.mk hx2
      have HX3 := Aside0.mk hx3
      have HSZ := Aside0.mk HM.out.2.2.2.2.2.2
      clear hinf hx1 hx2 hx3
      have HMr := Aside0.mk HM.out.2.2.2.1
      have HMz := Aside0.mk HM.out.2.2.2.2.1
      have HMb := Aside0.mk HM.out.1
      clear HM
      go_wp2_with (first | (refine wpList_make_own wr rfl _ _ 22 rfl (w.heap.size + 1 + 1 + 1 + 1 + 1) 5 ix (.int .u8 0) 1 Tryd.underlying22 HI.out HX1.out HX2.out .i64 .i64 68 68 rfl rfl rfl (by rw [HX3.out]; omega) (by unfold maxLen; omega) (by rw [HSZ.out]; omega) ?_; intro w5 hown hgr; have HOW := Aside0.mk hown; have HR5 : Aside0 (Row w5 (w.heap.size + 1 + 1 + 1 + 1) .u32 64 (pS f g 1024) 49) := ⟨(hgr.block _ (by rw [HSZ.out]; omega) (by simp)).trans HRs.out⟩; have HR3 : Aside0 (Row w5 (w.heap.size + 1 + 1 + 1) .u8 32 (fun _ => 0) 23) := ⟨(hgr.block _ (by rw [HSZ.out]; omega) (by simp)).trans HMz.out⟩; have HR2 : Aside0 (Row w5 (w.heap.size + 1 + 1) .u8 32 c 23) := ⟨(hgr.block _ (by rw [HSZ.out]; omega) (by simp)).trans HMr.out⟩; have HB5 := Aside0.mk (HMb.out.grown hgr (by rw [HSZ.out]; omega) (fun k e => by cases e)); have HL5 := Aside0.mk hgr.size; clear hown hgr) | refine step_load HR5.out Tryd.underlying49 info64 rfl rfl rfl rfl ?_)
      rw [HSZ.out] at HOW HL5
      clear HRs HMr HMz HMb
      rw [HSZ.out]
      clear HSZ
      go_loopw [42, 12, 13] (fun v42 v12 v13 wr => MRel3 f g c w v42 v12 v13 wr) (fun v _ _ _ => 64 - (intOf v).toNat)
      case atStart => exact ⟨0, by omega, rfl, rfl, HOW.out, HB5.out, HR2.out, HR3.out, HL5.out⟩
      case round =>
        clear HOW HB5 HR2 HR3 HL5 HR5
        obtain ⟨i, hi, rfl, rfl, hown, hb, hc, hz, hl⟩ := hrel
        have HOW := Aside0.mk hown
        have HB := Aside0.mk hb
        have HCr := Aside0.mk hc
        have HZ := Aside0.mk hz
        have HL := Aside0.mk hl
        have HOWa := Aside0.mk (fun x : Int => hown.kept (World.grownBy_alloc wr (.cells #[.int .u8 x] 5) none) (by simp))
        have HCE := Aside0.mk (fun (j : Nat) (hj : j < 32) => hc.cell j hj)
        clear hown hb hc hz
        rcases Nat.lt_or_ge i 64 with h64 | h64
        · have hlt : ((i : Int) < 64) = True := eq_true (by omega)
          have hix := index64 (pS f g 1024) i h64
          have hcb := cyH_b f g c HF.out HG.out HC.out i
          have hpb := pS_b f g HF.out HG.out 1024 (by omega) i
          have hY : pH f g c i + cy 256 (pH f g c) i = pS f g 1024 i + (if i < 32 then c i else 0) + cy 256 (pH f g c) i := rfl
          have HCY : Aside0 (cy 256 (pH f g c) (i + 1) = (pH f g c i + cy 256 (pH f g c) i) / 256) := ⟨rfl⟩
          have HMB : Aside0 (mB f g c i = (pH f g c i + cy 256 (pH f g c) i) % 256) := ⟨if_pos h64⟩
          generalize pH f g c i + cy 256 (pH f g c) i = Y at *
          have HOWa := Aside0.mk (HOWa.out (Y % 256))
          rcases Nat.lt_or_ge i 32 with h33 | h33
          · have hlt2 : ((i : Int) < 32) = True := eq_true (by omega)
            have hci := HC.out i h33
            have k0 := HCE.out i h33
            rw [if_pos h33] at hY
            generalize cy 256 (pH f g c) i = y at *
            generalize pS f g 1024 i = p at *
            generalize c i = ci at *
            have q0 : IntKind.u32.wrap ci = ci := u32w _ (by omega)
            have q1 : IntKind.u32.wrap (y + ci) = y + ci := u32w _ (by omega)
            have q2 : IntKind.u32.wrap (y + ci + p) = Y := by rw [u32w _ (by omega)]; omega
            clear hci hcb hpb hY
            go_wp2_with (refine wpList_append_own _ rfl _ _ 22 rfl (w.heap.size + 1 + 1 + 1 + 1 + 1) 5 ix (.int .u8 0) 1 1 Tryd.underlying22 HI.out HX1.out HX2.out HX3.out rfl (by decide) _ i _ rfl HOWa.out ⟨wr.heap.size, 0, none⟩ 1 1 [.int .u8 (Y % 256)] rfl rfl (news_one _ _ _) (by simp [Value.oneCell']) (by unfold maxLen; omega) (by omega) (by simp; omega) ?_; intro v5 w5 ho5 hg5 _; have HO5 := Aside0.mk ho5; have HG5 := Aside0.mk hg5; clear ho5 hg5)
            have HB5 := Aside0.mk ((HB.out.alloc (by omega) (.cells #[.int .u8 (Y % 256)] 5)).grown HG5.out (by simp; omega) (fun k e => by have := (World.ownsRow.lt HOWa.out k e).1; omega))
            have HC5 : Aside0 (Row w5 (w.heap.size + 1 + 1) .u8 32 c 23) := ⟨(HG5.out.block _ (by simp; omega) (fun e => by have := (World.ownsRow.lt HOWa.out _ e.symm).1; omega)).trans (HCr.out.alloc _)⟩
            have HZ5 : Aside0 (Row w5 (w.heap.size + 1 + 1 + 1) .u8 32 (fun _ => 0) 23) := ⟨(HG5.out.block _ (by simp; omega) (fun e => by have := (World.ownsRow.lt HOWa.out _ e.symm).1; omega)).trans (HZ.out.alloc _)⟩
            refine ⟨⟨i + 1, by omega, rfl, by rw [HCY.out], ?_, HB5.out, HC5.out, HZ5.out, by have := HG5.out.size; simp at this; omega⟩, meas_up 64 i h64⟩
            have e := OwnB.push (n := i) (mB f g c)
            rw [HMB.out] at e
            unfold OwnB
            rw [← e]
            exact HO5.out
          · have hlt2 : ((i : Int) < 32) = False := eq_false (by omega)
            rw [if_neg (by omega)] at hY
            generalize cy 256 (pH f g c) i = y at *
            generalize pS f g 1024 i = p at *
            have q2 : IntKind.u32.wrap (y + p) = Y := by rw [u32w _ (by omega)]; omega
            clear hcb hpb hY
            go_wp2_with (refine wpList_append_own _ rfl _ _ 22 rfl (w.heap.size + 1 + 1 + 1 + 1 + 1) 5 ix (.int .u8 0) 1 1 Tryd.underlying22 HI.out HX1.out HX2.out HX3.out rfl (by decide) _ i _ rfl HOWa.out ⟨wr.heap.size, 0, none⟩ 1 1 [.int .u8 (Y % 256)] rfl rfl (news_one _ _ _) (by simp [Value.oneCell']) (by unfold maxLen; omega) (by omega) (by simp; omega) ?_; intro v5 w5 ho5 hg5 _; have HO5 := Aside0.mk ho5; have HG5 := Aside0.mk hg5; clear ho5 hg5)
            have HB5 := Aside0.mk ((HB.out.alloc (by omega) (.cells #[.int .u8 (Y % 256)] 5)).grown HG5.out (by simp; omega) (fun k e => by have := (World.ownsRow.lt HOWa.out k e).1; omega))
            have HC5 : Aside0 (Row w5 (w.heap.size + 1 + 1) .u8 32 c 23) := ⟨(HG5.out.block _ (by simp; omega) (fun e => by have := (World.ownsRow.lt HOWa.out _ e.symm).1; omega)).trans (HCr.out.alloc _)⟩
            have HZ5 : Aside0 (Row w5 (w.heap.size + 1 + 1 + 1) .u8 32 (fun _ => 0) 23) := ⟨(HG5.out.block _ (by simp; omega) (fun e => by have := (World.ownsRow.lt HOWa.out _ e.symm).1; omega)).trans (HZ.out.alloc _)⟩
            refine ⟨⟨i + 1, by omega, rfl, by rw [HCY.out], ?_, HB5.out, HC5.out, HZ5.out, by have := HG5.out.size; simp at this; omega⟩, meas_up 64 i h64⟩
            have e := OwnB.push (n := i) (mB f g c)
            rw [HMB.out] at e
            unfold OwnB
            rw [← e]
            exact HO5.out
        · obtain rfl : i = 64 := by omega
          have HM1 : Aside0 (mB f g c 64 = cy 256 (pH f g c) 64 % 256) := ⟨by unfold mB; rw [if_neg (by omega), if_pos rfl]⟩
          have HM2 : Aside0 (mB f g c 65 = cy 256 (pH f g c) 64 / 256 % 256) := ⟨by unfold mB; rw [if_neg (by omega), if_neg (by omega)]⟩
          have hcb := cyH_b f g c HF.out HG.out HC.out 64
          generalize cy 256 (pH f g c) 64 = y at *
          have HOWb := Aside0.mk (HOW.out.kept (World.grownBy_alloc wr (.cells #[.int .u8 (y % 256), .int .u8 (y / 256 % 256)] 5) none) (by simp))
          go_wp2_with (refine wpList_append_own _ rfl _ _ 22 rfl (w.heap.size + 1 + 1 + 1 + 1 + 1) 5 ix (.int .u8 0) 1 1 Tryd.underlying22 HI.out HX1.out HX2.out HX3.out rfl (by decide) _ 64 _ rfl HOWb.out ⟨wr.heap.size, 0, none⟩ 2 2 [.int .u8 (y % 256), .int .u8 (y / 256 % 256)] rfl rfl (news_two _ _ _ _) (by simp [Value.oneCell']) (by unfold maxLen; omega) (by omega) (by simp; omega) ?_; intro v5 w5 ho5 hg5 _; have hob : OwnB w5 (w.heap.size + 1 + 1 + 1 + 1 + 1) v5 66 (mB f g c) := (by have e1 := OwnB.push (n := 64) (mB f g c); have e2 := OwnB.push (n := 65) (mB f g c); rw [HM1.out] at e1; rw [HM2.out] at e2; unfold OwnB; rw [← e2, ← e1, List.append_assoc]; exact ho5); have HG5 := Aside0.mk hg5; obtain ⟨a5, c5, rfl, hbt⟩ := hob.bytesAt; have HBT := Aside0.mk hbt; clear ho5 hg5 hob hbt)
          have HB5 := Aside0.mk ((HB.out.alloc (by omega) (.cells #[.int .u8 (y % 256), .int .u8 (y / 256 % 256)] 5)).grown HG5.out (by simp; omega) (fun k e => by have := (World.ownsRow.lt HOWb.out k e).1; omega))
          have HZ5 : Aside0 (Row w5 (w.heap.size + 1 + 1 + 1) .u8 32 (fun _ => 0) 23) := ⟨(HG5.out.block _ (by simp; omega) (fun e => by have := (World.ownsRow.lt HOWb.out _ e.symm).1; omega)).trans (HZ.out.alloc _)⟩
          refine (rest_calls' (mB f g c) a5 66 c5 _ (HO.out.below HB5.out HO.out.lt) (fun j _ => mB_b f g c j) (by omega) HBT.out).mono ?_
          rintro e w6 ⟨rfl, hb6⟩
          have HB6 := Aside0.mk (HB5.out.trans (hb6.mono HB5.out.size))
          have HZ6 := Aside0.mk (HZ5.out.below hb6 HZ5.out.lt)
          clear hb6
          go_wp2_with (refine step_storeG _ HZ6.out info32 rfl rfl rfl rfl rfl ?_; intro w7 hs hr; have HS7 := Aside0.mk hs; have HR7 := Aside0.mk hr; clear hs hr)
          refine bodyPost_ret (row_results rfl HR7.out rfl Tryd.underlying23 rfl info32) rfl ?_
          refine ⟨?_, HS7.out.bel _ _ (by omega) HB6.out⟩
          rw [← mB_val f g c HF.out HG.out HC.out]
end Go.Proofs.YtchokhakdnjfmaaDoor.P
