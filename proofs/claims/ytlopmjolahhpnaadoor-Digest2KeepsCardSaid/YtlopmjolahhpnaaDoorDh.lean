/- digest2's Sum, by its walk. -/
import Derived.Test.YtlopmjolahhpnaaDoorDg
namespace Go.Proofs.YtlopmjolahhpnaaDoor.P
set_option linter.unusedVariables false
set_option linter.unusedSimpArgs false
open Go.RowKit Go.Proofs.YtlopmjolahhpnaaDoorW.PrintWords Go.Proofs.YtlopmjolahhpnaaDoorW.PrintLast Go.Proofs.YtlopmjolahhpnaaDoorW.PrintMore
attribute [local go_sem] setCell_drewN
theorem info64b : (Tryd.prog.info? 24).map (·.size) = some 64 := by kernel_rfl
theorem info8b : (Tryd.prog.info? 45).map (·.size) = some 8 := by kernel_rfl
theorem zero64b (w : World) : (zeroValue 24).run Tryd.prog w = .ok (.agg (FR .u8 64 fun _ => 0)) w := by kernel_rfl
set_option maxRecDepth 100000 in
theorem sum_nil (w : World) : Calls Tryd.prog 12 #[.pointer none] w fun e w' => e = .returned (.agg (FR .u8 64 fun _ => 0)) ∧ Below w.heap.size w w' := by
  have HN0 := Aside0.mk (Row.new w .u8 64 (fun _ => 0) 24)
  have HN1 := Aside0.mk (Row.new (w.alloc (.cells (FR .u8 64 fun _ => 0) 24)) .u8 64 (fun _ => 0) 24)
  have HN2 := Aside0.mk (HN0.out.alloc (.cells (FR .u8 64 fun _ => 0) 24))
  have HB := Aside0.mk (bel_two w (.cells (FR .u8 64 fun _ => 0) 24) (.cells (FR .u8 64 fun _ => 0) 24))
  have hz : (w.alloc (.cells (FR .u8 64 fun _ => 0) 24)).heap.size = w.heap.size + 1 := by simp
  rw [hz] at HN1
  clear hz
  go_enter Tryd.func12, Tryd.ntmps12
  have hzv := zero64b
  go_wp2_with (first | (refine step_load HN1.out Tryd.underlying24 info64b rfl rfl rfl rfl ?_) | (refine step_storeG (fun _ => 0) HN2.out info64b rfl rfl rfl rfl rfl ?_; intro w3 hs hr; have HS := Aside0.mk hs; have HR := Aside0.mk hr; clear hs hr))
  refine bodyPost_ret (row_results rfl HR.out rfl Tryd.underlying24 rfl info64b) rfl ?_
  exact ⟨rfl, HS.out.bel _ _ (Nat.le_refl _) HB.out⟩
theorem Row.numsAt {w : World} {g : Nat} {k : IntKind} {n : Nat} {f : Nat → Int} {t : TypeId} (h : Row w g k n f t) : NumsAt k w (some ⟨g, 0, none⟩) n f := .inr ⟨_, rfl, fun j hj => by
  rw [show (⟨g, 0, none⟩ : Addr).add j = ⟨g, 0 + j, none⟩ from Addr.add_lit .., Nat.zero_add]; exact h.cell j hj⟩
theorem bel_3 (w : World) (a b c : Obj) : Below (w.heap.size + 1 + 1 + 1) (((w.alloc a).alloc b).alloc c) (((w.alloc a).alloc b).alloc c) := Below.refl _ _
def SR1 (z : Nat → Int) (n pl : Nat) (B1 : Nat) (w3 : World) (v5 : Value) (wr : World) : Prop := ∃ L : Nat, n + 1 ≤ L ∧ L ≤ pl - 16 ∧ OwnB wr B1 v5 (L - 128 * (n / 128)) (fun j => pad z n (128 * (n / 128) + j)) ∧ Below B1 w3 wr
def SR2 (z : Nat → Int) (n pl : Nat) (B1 : Nat) (w3 : World) (v7 v5 : Value) (wr : World) : Prop := ∃ r : Nat, r ≤ 8 ∧ v7 = .int .i64 ((r : Int) - 1) ∧ OwnB wr B1 v5 (pl - r - 128 * (n / 128)) (fun j => pad z n (128 * (n / 128) + j)) ∧ Below B1 w3 wr
def SR3 (z : Nat → Int) (n pl : Nat) (w : World) (v5 : Value) (wr : World) : Prop := ∃ k : Nat, n / 128 + k ≤ pl / 128 ∧ OwnB wr (w.heap.size + 1 + 1 + 1) v5 (pl - 128 * (n / 128 + k)) (fun j => pad z n (128 * (n / 128 + k) + j)) ∧ HashAt wr (w.heap.size + 1 + 1) (absorb (pad z n) (n / 128 + k)) (.slice none 0 0) 0 ∧
  Row wr w.heap.size .u8 64 (fun _ => 0) 24 ∧ Row wr (w.heap.size + 1) .u8 64 (fun _ => 0) 24 ∧ Tab wr ∧ Below w.heap.size w wr
def SR4 (S : Nat → Int) (w : World) (v67 : Value) (wr : World) : Prop := ∃ i : Nat, i ≤ 64 ∧ v67 = .int .i64 (i : Int) ∧ HashAt wr (w.heap.size + 1 + 1) S (.slice none 0 0) 0 ∧
  Row wr w.heap.size .u8 64 (fun _ => 0) 24 ∧ Row wr (w.heap.size + 1) .u8 64 (fun j => if j < i then ob S j else 0) 24 ∧ Below w.heap.size w wr
theorem lb_high (n e : Nat) (hn : n ≤ 1099511627776) (he : 8 ≤ e) : lb n e = 0 := by
  unfold lb
  have h1 : 256 ^ 8 ≤ 256 ^ e := Nat.pow_le_pow_right (by omega) he
  rw [Nat.div_eq_of_lt (by omega)]; rfl
theorem lb_shift (n t : Nat) : (n : Int) * 8 / 2 ^ (8 * t) % 256 = lb n t := by
  unfold lb
  rw [show (256 : Nat) ^ t = 2 ^ (8 * t) by rw [Nat.pow_mul]]
  rw [Int.natCast_emod, Int.natCast_ediv, Int.natCast_mul, Int.natCast_pow, Int.mul_comm]
  rfl
set_option maxRecDepth 100000 in
set_option maxHeartbeats 2000000 in
theorem sum_calls (z : Nat → Int) (n B g : Nat) (v : Value) (w : World) (ht : Tab w) (hh : HashOf w B g z n v) (hn : n ≤ 1099511627776) (hz : ∀ j, j < n → 0 ≤ z j ∧ z j < 256) :
    Calls Tryd.prog 12 #[.pointer (some ⟨g, 0, none⟩)] w fun e w' => e = .returned (.agg (FR .u8 64 (dg z n))) ∧ Below w.heap.size w w' := by
  obtain ⟨hh1, hh2⟩ := hh
  obtain ⟨x0, c0, rfl⟩ := hh2.form
  have HN := Aside0.mk hn
  have HPL := Aside0.mk (PL_b n)
  have HPN := Aside0.mk (PL_next n)
  have HPB := Aside0.mk (pad_b z n hz)
  have HT := Aside0.mk ht
  have HH := Aside0.mk hh1
  have hgl := hh1.lt
  have HGL := Aside0.mk hgl
  have HPAD : Aside0 (∀ j, 128 * (n / 128) + j < n → pad z n (128 * (n / 128) + j) = z (128 * (n / 128) + j)) := ⟨fun j hj => by unfold pad; rw [if_pos hj]⟩
  have HPAD1 : Aside0 (∀ j, 128 * (n / 128) + j = n → pad z n (128 * (n / 128) + j) = 128) := ⟨fun j hj => by unfold pad; rw [if_neg (by omega), if_pos hj]⟩
  have HABS : Aside0 (absorb z (n / 128) = absorb (pad z n) (n / 128)) := ⟨by
    have key : ∀ k, 128 * k ≤ n → absorb z k = absorb (pad z n) k := by
      intro k
      induction k with
      | zero => intro _; rfl
      | succ k ih =>
        intro hk
        exact nxt_congr (ih (by omega)) (fun j hj => by unfold pad; rw [if_pos (by omega)])
    exact key _ (by omega)⟩
  have HDG : Aside0 (∀ pl, PL n = pl → dg z n = ob (absorb (pad z n) (pl / 128))) := ⟨fun pl h => by rw [← h]; rfl⟩
  obtain ⟨f, hf⟩ : ∃ f, absorb z (n / 128) = f := ⟨_, rfl⟩
  rw [hf] at HH HABS
  have HW2 := Aside0.mk ((HH.out.alloc (.cells (FR .u8 64 fun _ => 0) 24)).alloc (.cells (FR .u8 64 fun _ => 0) 24))
  have k0 := HW2.out.cell 0 (by omega)
  have k1 := HW2.out.cell 1 (by omega)
  have k2 := HW2.out.cell 2 (by omega)
  have k3 := HW2.out.cell 3 (by omega)
  have k4 := HW2.out.cell 4 (by omega)
  have k5 := HW2.out.cell 5 (by omega)
  have k6 := HW2.out.cell 6 (by omega)
  have k7 := HW2.out.cell 7 (by omega)
  have HW3 : Aside0 (HashAt (((w.alloc (.cells (FR .u8 64 fun _ => 0) 24)).alloc (.cells (FR .u8 64 fun _ => 0) 24)).alloc (.cells #[.int .u64 (f 0), .int .u64 (f 1), .int .u64 (f 2), .int .u64 (f 3), .int .u64 (f 4), .int .u64 (f 5), .int .u64 (f 6), .int .u64 (f 7), .slice none 0 0, .int .u64 0] 44)) g f (.slice x0 (n % 128) c0) (n : Int)) := ⟨HW2.out.alloc _⟩
  have HE3 : Aside0 (HashAt (((w.alloc (.cells (FR .u8 64 fun _ => 0) 24)).alloc (.cells (FR .u8 64 fun _ => 0) 24)).alloc (.cells #[.int .u64 (f 0), .int .u64 (f 1), .int .u64 (f 2), .int .u64 (f 3), .int .u64 (f 4), .int .u64 (f 5), .int .u64 (f 6), .int .u64 (f 7), .slice none 0 0, .int .u64 0] 44)) (w.heap.size + 1 + 1) f (.slice none 0 0) 0) := ⟨by
    have h := heap_alloc_new ((w.alloc (.cells (FR .u8 64 fun _ => 0) 24)).alloc (.cells (FR .u8 64 fun _ => 0) 24)) (.cells #[.int .u64 (f 0), .int .u64 (f 1), .int .u64 (f 2), .int .u64 (f 3), .int .u64 (f 4), .int .u64 (f 5), .int .u64 (f 6), .int .u64 (f 7), .slice none 0 0, .int .u64 0] 44)
    rw [show ((w.alloc (.cells (FR .u8 64 fun _ => 0) 24)).alloc (.cells (FR .u8 64 fun _ => 0) 24)).heap.size = w.heap.size + 1 + 1 by simp] at h
    exact h⟩
  have HB3 : Aside0 (Below w.heap.size w (((w.alloc (.cells (FR .u8 64 fun _ => 0) 24)).alloc (.cells (FR .u8 64 fun _ => 0) 24)).alloc (.cells #[.int .u64 (f 0), .int .u64 (f 1), .int .u64 (f 2), .int .u64 (f 3), .int .u64 (f 4), .int .u64 (f 5), .int .u64 (f 6), .int .u64 (f 7), .slice none 0 0, .int .u64 0] 44))) := ⟨bel_three w _ _ _⟩
  have HR2 : Aside0 (Row (((w.alloc (.cells (FR .u8 64 fun _ => 0) 24)).alloc (.cells (FR .u8 64 fun _ => 0) 24)).alloc (.cells #[.int .u64 (f 0), .int .u64 (f 1), .int .u64 (f 2), .int .u64 (f 3), .int .u64 (f 4), .int .u64 (f 5), .int .u64 (f 6), .int .u64 (f 7), .slice none 0 0, .int .u64 0] 44)) w.heap.size .u8 64 (fun _ => 0) 24) := ⟨((Row.new w .u8 64 (fun _ => 0) 24).alloc _).alloc _⟩
  have HR3 : Aside0 (Row (((w.alloc (.cells (FR .u8 64 fun _ => 0) 24)).alloc (.cells (FR .u8 64 fun _ => 0) 24)).alloc (.cells #[.int .u64 (f 0), .int .u64 (f 1), .int .u64 (f 2), .int .u64 (f 3), .int .u64 (f 4), .int .u64 (f 5), .int .u64 (f 6), .int .u64 (f 7), .slice none 0 0, .int .u64 0] 44)) (w.heap.size + 1) .u8 64 (fun _ => 0) 24) := ⟨by
    have h := (Row.new (w.alloc (.cells (FR .u8 64 fun _ => 0) 24)) .u8 64 (fun _ => 0) 24)
    rw [show (w.alloc (.cells (FR .u8 64 fun _ => 0) 24)).heap.size = w.heap.size + 1 by simp] at h
    exact h.alloc _⟩
  have HT3 : Aside0 (Tab (((w.alloc (.cells (FR .u8 64 fun _ => 0) 24)).alloc (.cells (FR .u8 64 fun _ => 0) 24)).alloc (.cells #[.int .u64 (f 0), .int .u64 (f 1), .int .u64 (f 2), .int .u64 (f 3), .int .u64 (f 4), .int .u64 (f 5), .int .u64 (f 6), .int .u64 (f 7), .slice none 0 0, .int .u64 0] 44))) := ⟨HT.out.keep (HB3.out.block _ HT.out.lt)⟩
  have HS3 : Aside0 ((((w.alloc (.cells (FR .u8 64 fun _ => 0) 24)).alloc (.cells (FR .u8 64 fun _ => 0) 24)).alloc (.cells #[.int .u64 (f 0), .int .u64 (f 1), .int .u64 (f 2), .int .u64 (f 3), .int .u64 (f 4), .int .u64 (f 5), .int .u64 (f 6), .int .u64 (f 7), .slice none 0 0, .int .u64 0] 44)).heap.size = w.heap.size + 1 + 1 + 1) := ⟨by simp⟩
  have HV3 : Aside0 (OwnB (((w.alloc (.cells (FR .u8 64 fun _ => 0) 24)).alloc (.cells (FR .u8 64 fun _ => 0) 24)).alloc (.cells #[.int .u64 (f 0), .int .u64 (f 1), .int .u64 (f 2), .int .u64 (f 3), .int .u64 (f 4), .int .u64 (f 5), .int .u64 (f 6), .int .u64 (f 7), .slice none 0 0, .int .u64 0] 44)) B (.slice x0 (n % 128) c0) (n % 128) (fun j => z (128 * (n / 128) + j))) := ⟨hh2.below HB3.out (fun b hb => (hh2.lt b hb).2)⟩
  have k8 : ((((w.alloc (.cells (FR .u8 64 fun _ => 0) 24)).alloc (.cells (FR .u8 64 fun _ => 0) 24)).alloc (.cells #[.int .u64 (f 0), .int .u64 (f 1), .int .u64 (f 2), .int .u64 (f 3), .int .u64 (f 4), .int .u64 (f 5), .int .u64 (f 6), .int .u64 (f 7), .slice none 0 0, .int .u64 0] 44)).alloc (.cells #[] 5)).cell? ⟨g, 8, none⟩ = some (.slice x0 (n % 128) c0) := (HW3.out.alloc (.cells #[] 5)).cell8
  clear hh1 ht hz hf
  have HO4 : Aside0 (OwnB ((((w.alloc (.cells (FR .u8 64 fun _ => 0) 24)).alloc (.cells (FR .u8 64 fun _ => 0) 24)).alloc (.cells #[.int .u64 (f 0), .int .u64 (f 1), .int .u64 (f 2), .int .u64 (f 3), .int .u64 (f 4), .int .u64 (f 5), .int .u64 (f 6), .int .u64 (f 7), .slice none 0 0, .int .u64 0] 44)).alloc (.cells #[] 5)) (w.heap.size + 1 + 1 + 1) (.slice (some ⟨w.heap.size + 1 + 1 + 1, 0, none⟩) 0 0) 0 z) := ⟨by
    rw [← HS3.out]
    exact OwnS.made _ 0 z (Nat.le_refl _) (by unfold maxLen; omega)⟩
  obtain ⟨a', c', e', hnum, hnn⟩ := (HV3.out.alloc (.cells #[] 5)).numsAt
  cases e'
  have HNUM := Aside0.mk hnum
  have HNN := Aside0.mk hnn
  have HS4 : Aside0 (w.heap.size + 1 + 1 + 1 ≤ ((((w.alloc (.cells (FR .u8 64 fun _ => 0) 24)).alloc (.cells (FR .u8 64 fun _ => 0) 24)).alloc (.cells #[.int .u64 (f 0), .int .u64 (f 1), .int .u64 (f 2), .int .u64 (f 3), .int .u64 (f 4), .int .u64 (f 5), .int .u64 (f 6), .int .u64 (f 7), .slice none 0 0, .int .u64 0] 44)).alloc (.cells #[] 5)).heap.size) := ⟨by rw [← HS3.out]; exact ((Below.refl _ _).alloc (Nat.le_refl _) _).size⟩
  have HB4 : Aside0 (Below (w.heap.size + 1 + 1 + 1) (((w.alloc (.cells (FR .u8 64 fun _ => 0) 24)).alloc (.cells (FR .u8 64 fun _ => 0) 24)).alloc (.cells #[.int .u64 (f 0), .int .u64 (f 1), .int .u64 (f 2), .int .u64 (f 3), .int .u64 (f 4), .int .u64 (f 5), .int .u64 (f 6), .int .u64 (f 7), .slice none 0 0, .int .u64 0] 44)) ((((w.alloc (.cells (FR .u8 64 fun _ => 0) 24)).alloc (.cells (FR .u8 64 fun _ => 0) 24)).alloc (.cells #[.int .u64 (f 0), .int .u64 (f 1), .int .u64 (f 2), .int .u64 (f 3), .int .u64 (f 4), .int .u64 (f 5), .int .u64 (f 6), .int .u64 (f 7), .slice none 0 0, .int .u64 0] 44)).alloc (.cells #[] 5))) := ⟨by
    have h := (Below.refl (((w.alloc (.cells (FR .u8 64 fun _ => 0) 24)).alloc (.cells (FR .u8 64 fun _ => 0) 24)).alloc (.cells #[.int .u64 (f 0), .int .u64 (f 1), .int .u64 (f 2), .int .u64 (f 3), .int .u64 (f 4), .int .u64 (f 5), .int .u64 (f 6), .int .u64 (f 7), .slice none 0 0, .int .u64 0] 44)).heap.size (((w.alloc (.cells (FR .u8 64 fun _ => 0) 24)).alloc (.cells (FR .u8 64 fun _ => 0) 24)).alloc (.cells #[.int .u64 (f 0), .int .u64 (f 1), .int .u64 (f 2), .int .u64 (f 3), .int .u64 (f 4), .int .u64 (f 5), .int .u64 (f 6), .int .u64 (f 7), .slice none 0 0, .int .u64 0] 44))).alloc (Nat.le_refl _) (.cells #[] 5)
    rw [HS3.out] at h
    exact h⟩
  clear hnum hnn hh2
  go_enter Tryd.func12, Tryd.ntmps12
  have hzv := zero64b
  go_wp2_with (first | (refine step_append HO4.out HNUM.out Tryd.underlying22 info8p rfl rfl rfl rfl rfl HNN.out (by unfold maxLen; omega) (by omega) HS4.out ?_; intro v9 w9 ho9 hg9 _ _; have HB9 := Aside0.mk (grown_bel HB4.out hg9 HS4.out (fun b hb => (HO4.out.lt b hb).1)); have HB9a := Aside0.mk (HB9.out.alloc (by have := HB9.out.size; rw [HS3.out] at this; exact this) (.cells #[.int .u8 128] 5)); have HO9a := Aside0.mk (OwnS.alloc ho9 (.cells #[.int .u8 128] 5)); have hsz9 := HB9a.out.size; rw [HS3.out] at hsz9; clear ho9 hg9) | (refine step_append HO9a.out (NumsAt.one .u8 _ _ _) Tryd.underlying22 info8p rfl rfl rfl rfl rfl (fun e => by cases e) (by unfold maxLen; omega) (by omega) (by simpa using hsz9) ?_; intro v11 w11 ho11 hg11 _ _; have HB11 := Aside0.mk (grown_bel HB9a.out hg11 hsz9 (fun b hb => (HO9a.out.lt b hb).1)); have HO11 := Aside0.mk ho11; clear ho11 hg11))
  have HB0 := Aside0.mk (HB3.out.trans (HB11.out.mono (by omega)))
  have HR2b := Aside0.mk (HR2.out.below HB11.out (by omega))
  have HR3b := Aside0.mk (HR3.out.below HB11.out (by omega))
  have HEb := Aside0.mk (HE3.out.below HB11.out (by omega))
  have HTb := Aside0.mk (HT3.out.keep (HB11.out.block _ (by have := HT.out.lt; omega)))
  have HHb := Aside0.mk (HW3.out.below HB11.out (by omega))
  have HO12 : Aside0 (OwnB w11 (w.heap.size + 1 + 1 + 1) v11 (n + 1 - 128 * (n / 128)) (fun j => pad z n (128 * (n / 128) + j))) := ⟨by
    have h := HO11.out
    rw [Nat.zero_add] at h
    unfold OwnB
    rw [show n + 1 - 128 * (n / 128) = n % 128 + 1 by omega]
    exact h.congr (fun j hj => by
      by_cases h1 : j < n % 128
      · rw [if_pos h1, HPAD.out j (by omega)]; rfl
      · rw [if_neg h1, HPAD1.out j (by omega)])⟩
  have hs11 := HB11.out.size
  rw [HS3.out] at hs11
  have HS11 := Aside0.mk hs11
  clear k0 k1 k2 k3 k4 k5 k6 k7 k8 hzv HB9 HB9a HO9a hsz9 HO11 HO4 HB4 HS4 HNUM HNN HV3 HT3 HR2 HR3 HE3 HW3 HB3 HW2 HS3 HH HB11
  obtain ⟨pl, hpl⟩ : ∃ x, PL n = x := ⟨_, rfl⟩
  rw [hpl] at HPL HPN
  have HDG := Aside0.mk (HDG.out pl hpl)
  have HPZ : Aside0 (∀ j, n < j → j < pl - 16 → pad z n j = 0) := ⟨fun j h1 h2 => by unfold pad; rw [if_neg (by omega), if_neg (by omega), if_pos (by omega)]⟩
  have HPE : Aside0 (∀ j, pl - 16 ≤ j → pad z n j = lb n (pl - 1 - j)) := ⟨fun j h1 => by have := HPL.out; unfold pad; rw [if_neg (by omega), if_neg (by omega), if_neg (by omega), hpl]⟩
  clear hpl
  have hPL := HPL.out
  go_loopw [5] (fun v5 wr => SR1 z n pl (w.heap.size + 1 + 1 + 1) w11 v5 wr) (fun v _ => pl - 128 * (n / 128) - slen v)
  case atStart => exact ⟨n + 1, by omega, by omega, HO12.out, Below.refl _ _⟩
  case round =>
    clear HO12
    obtain ⟨L, hL1, hL2, hown, hb⟩ := hrel
    have hnx := HPN.out L hL1 hL2
    obtain ⟨M, hM⟩ : ∃ M, L - 128 * (n / 128) = M := ⟨_, rfl⟩
    rw [hM] at hown
    have hLM : L = M + 128 * (n / 128) := by omega
    have hmod : M % 128 = L % 128 := by omega
    obtain ⟨x, c, rfl⟩ := hown.form
    have HOW := Aside0.mk hown
    have HB := Aside0.mk hb
    have hsz := hb.size
    have hszB : w.heap.size + 1 + 1 + 1 ≤ wr.heap.size := by omega
    clear hown hb
    by_cases hq : M % 128 = 112
    · have hLe := hnx.1 (by omega)
      have hne : ((M : Int) % 128 != 112) = false := by simp; omega
      have hne2 : ((M : Int) % 128 = 112) = True := eq_true (by omega)
      clear hmod hnx
      have HHr := Aside0.mk (HHb.out.below HB.out (by omega))
      have k9 := HHr.out.cell9
      have s61 : (n : Int) / 2305843009213693952 = 0 := by omega
      have HN8 := Aside0.mk (Row.new wr .u8 8 (fun _ => 0) 45)
      have HBn := Aside0.mk (HB.out.alloc (by omega) (.cells (FR .u8 8 fun _ => 0) 45))
      have HOn := Aside0.mk (HOW.out.alloc (.cells (FR .u8 8 fun _ => 0) 45))
      have hlt8 := HOW.out.lt
      have HLT8 := Aside0.mk hlt8
      clear hlt8 hL1 hL2
      go_wp2_with (first | (refine step_storeG (fun _ => 0) HN8.out info8b rfl rfl rfl rfl rfl ?_; intro w8 hs hr; have HNU8 : Aside0 (NumsAt .u8 w8 (some ⟨wr.heap.size, 0, none⟩) 8 (fun _ => 0)) := ⟨Row.numsAt hr⟩; have HB8 := Aside0.mk (hs.bel (w.heap.size + 1 + 1 + 1) _ hszB HBn.out); have HO8 := Aside0.mk (HOn.out.keep (w' := w8) (fun b hb => hs.other b (by have := (HLT8.out b hb).2; omega))); have hs9 := Nat.le_trans HS11.out HB8.out.size; clear hs hr) | (refine step_append HO8.out HNU8.out Tryd.underlying22 info8p rfl rfl rfl rfl rfl (fun e => by cases e) (by unfold maxLen; omega) (by omega) hs9 ?_; intro v5 w5 ho5 hg5 _ _; have HB5 := Aside0.mk (grown_bel HB8.out hg5 hs9 (fun b hb => (HO8.out.lt b hb).1)); obtain ⟨x5, c5, rfl⟩ := ho5.form; have HO5 := Aside0.mk ho5; clear ho5 hg5))
      have HO6 : Aside0 (OwnB w5 (w.heap.size + 1 + 1 + 1) (.slice x5 (M + 8) c5) (pl - 8 - 128 * (n / 128)) (fun j => pad z n (128 * (n / 128) + j))) := ⟨by
        unfold OwnB
        rw [show pl - 8 - 128 * (n / 128) = M + 8 by omega]
        exact HO5.out.congr (fun j hj => by
          by_cases h1 : j < M
          · rw [if_pos h1]
          · rw [if_neg h1, HPE.out _ (by omega), lb_high n _ hn (by omega)])⟩
      clear HO5 HO8 HB8 HNU8 hs9 HOn HBn HN8 HOW HHr k9 HB
      go_loopw [7, 5] (fun v7 v5 wr => SR2 z n pl (w.heap.size + 1 + 1 + 1) w11 v7 v5 wr) (fun v _ _ => ((intOf v) + 1).toNat)
      case atStart => exact ⟨8, by omega, rfl, HO6.out, HB5.out⟩
      case round =>
        clear HO6 HB5
        obtain ⟨r, hr, rfl, hown, hb⟩ := hrel
        have HOW := Aside0.mk hown
        have HB := Aside0.mk hb
        have hszr := hb.size
        have hszB2 := Nat.le_trans HS11.out hszr
        obtain ⟨x6, c6, rfl⟩ := hown.form
        clear hown hb
        rcases Nat.eq_zero_or_pos r with rfl | hr0
        · rw [show (((0 : Nat) : Int) - 1) = -1 from rfl]
          go_wp2_with fail
          have HO0 : Aside0 (OwnB wr (w.heap.size + 1 + 1 + 1) (.slice x6 (pl - 0 - 128 * (n / 128)) c6) (pl - 128 * (n / 128 + 0)) (fun j => pad z n (128 * (n / 128 + 0) + j))) := ⟨HOW.out⟩
          have HE0 : Aside0 (HashAt wr (w.heap.size + 1 + 1) (absorb (pad z n) (n / 128 + 0)) (.slice none 0 0) 0) := ⟨by
            have h := HEb.out.below HB.out (by omega)
            rw [HABS.out] at h
            exact h⟩
          have HR20 := Aside0.mk (HR2b.out.below HB.out (by omega))
          have HR30 := Aside0.mk (HR3b.out.below HB.out (by omega))
          have HT0 := Aside0.mk (HTb.out.keep (HB.out.block _ (by have := HT.out.lt; omega)))
          have HBB := Aside0.mk (HB0.out.trans (HB.out.mono (by omega)))
          clear HOW HB
          go_loopw [5] (fun v5 wr => SR3 z n pl w v5 wr) (fun v _ => slen v)
          case atStart => exact ⟨0, by omega, HO0.out, HE0.out, HR20.out, HR30.out, HT0.out, HBB.out⟩
          case round =>
            clear HO0 HE0 HR20 HR30 HT0 HBB HR2b HR3b HTb HEb HHb HB0 HS11 HABS HPAD HPAD1 HPZ HPE HPN
            obtain ⟨k, hk, ho, he, h2, h3, ht, hb⟩ := hrel
            obtain ⟨L, hL⟩ : ∃ L, pl - 128 * (n / 128 + k) = L := ⟨_, rfl⟩
            have hL2 : L + 128 * (n / 128 + k) = pl := by omega
            rw [hL] at ho
            obtain ⟨xk, ck, rfl⟩ := ho.form
            have HO := Aside0.mk ho
            have HE := Aside0.mk he
            have HR2 := Aside0.mk h2
            have HR3 := Aside0.mk h3
            have HT := Aside0.mk ht
            have HB := Aside0.mk hb
            have hszb := hb.size
            clear he h2 h3 ht hb
            rcases Nat.eq_zero_or_pos L with h0 | hL0
            · subst h0
              clear ho
              go_wp2_with fail
              have HS : Aside0 (HashAt wr (w.heap.size + 1 + 1) (absorb (pad z n) (pl / 128)) (.slice none 0 0) 0) := ⟨by
                rw [show pl / 128 = n / 128 + k by omega]; exact HE.out⟩
              generalize absorb (pad z n) (pl / 128) = S at *
              clear HE HO hL hL2 hk
              go_loopw [67] (fun v67 wr => SR4 S w v67 wr) (fun v _ => 64 - (intOf v).toNat)
              case atStart => exact ⟨0, by omega, rfl, HS.out, HR2.out, row_eq HR3.out (fun j hj => by rw [if_neg (by omega)]), HB.out⟩
              case round =>
                clear HS HR2 HR3 HB HT
                obtain ⟨i, hi, rfl, he, h2, h3, hb⟩ := hrel
                have HE := Aside0.mk he
                have HR2 := Aside0.mk h2
                have HR3 := Aside0.mk h3
                have HB := Aside0.mk hb
                rcases Nat.lt_or_ge i 64 with h64 | h64
                · have hlt : ((i : Int) < 64) = True := eq_true (by omega)
                  obtain ⟨q, hq⟩ : ∃ q, i / 8 = q := ⟨_, rfl⟩
                  obtain ⟨r, hr⟩ : ∃ r, i % 8 = r := ⟨_, rfl⟩
                  have hq8 : q < 8 := by omega
                  have hr8 : r < 8 := by omega
                  have dq : (i : Int) / 8 = (q : Int) := by omega
                  have dr : (i : Int) % 8 = (r : Int) := by omega
                  have l8 : ((q : Int) < 8) = True := eq_true (by omega)
                  have q1 : wrap64 (8 * (r : Int)) = 8 * (r : Int) := w64 _ (by omega)
                  have q2 : IntKind.i64.wrap (8 * (r : Int)) = 8 * (r : Int) := i64w _ (by omega)
                  have q3 : wrap64 (56 - 8 * (r : Int)) = 56 - 8 * (r : Int) := w64 _ (by omega)
                  have q4 : IntKind.i64.wrap (56 - 8 * (r : Int)) = 56 - 8 * (r : Int) := i64w _ (by omega)
                  have q5 : (56 - 8 * (r : Int)).toNat = 8 * (7 - r) := by omega
                  have q6 : 0 ≤ 56 - 8 * (r : Int) := by omega
                  have q7 : 56 - 8 * (r : Int) ≤ 64 := by omega
                  have k0 := he.cell q hq8
                  have f3 := h3.fro i
                  have k3 := h3.cell i h64
                  rw [if_neg (Nat.lt_irrefl i)] at k3
                  have HSt := Aside0.mk (part_step (a := ⟨0, 0, none⟩) h3 h64)
                  rw [show ob S i = S q / 2 ^ (8 * (7 - r)) % 256 by unfold ob; rw [hq, hr]] at HSt
                  clear he h2 h3 hb hq hr
                  go_wp2_with fail
                  refine ⟨⟨i + 1, by omega, rfl, HE.out.other _ _ (show w.heap.size + 1 + 1 ≠ w.heap.size + 1 by omega), HR2.out.other _ _ (show w.heap.size ≠ w.heap.size + 1 by omega), HSt.out, bel_set HB.out _ _ (show w.heap.size ≤ w.heap.size + 1 by omega)⟩, meas_up 64 i h64⟩
                · obtain rfl : i = 64 := by omega
                  have HM := Aside0.mk (row_eq h3 (f' := dg z n) (fun j hj => by rw [if_pos hj, HDG.out]))
                  clear he h2 h3 hb
                  go_wp2_with (first | (refine step_load HM.out Tryd.underlying24 info64b rfl rfl rfl rfl ?_) | (refine step_storeG (dg z n) HR2.out info64b rfl rfl rfl rfl rfl ?_; intro w7 hs hr; have HS7 := Aside0.mk hs; have HR7 := Aside0.mk hr; clear hs hr))
                  refine bodyPost_ret (row_results rfl HR7.out rfl Tryd.underlying24 rfl info64b) rfl ?_
                  exact ⟨rfl, HS7.out.bel _ _ (Nat.le_refl _) HB.out⟩
            · have hgt : ((L : Int) > 0) = True := eq_true (by omega)
              have h128 : 128 ≤ L := by omega
              obtain ⟨gk, ok, ck', e', hck, hgk1, hgk2, hcl, _, _⟩ := ho.open (by omega)
              cases e'
              have hmx : ck ≤ 9223372036854775807 := by
                rcases ho with ⟨h, _⟩ | ⟨_, _, _, _, h, _, _, _, hm, _⟩
                · cases h
                · cases h; unfold maxLen at hm; omega
              have HBK := Aside0.mk (block_calls (fun j => pad z n (128 * (n / 128 + k) + j)) (absorb (pad z n) (n / 128 + k)) (w.heap.size + 1 + 1) (.slice none 0 0) 0 gk ok L ck wr HT.out HE.out h128 hck hmx (fun j hj => hcl j (by omega)) (fun j hj => HPB.out _))
              clear hcl ho
              have p1 : (128 : Int) ≤ (ck : Int) := by omega
              have p2 : (128 : Int) ≤ (L : Int) := by omega
              go_wp2_with fail
              refine (HBK.out).mono ?_
              rintro e w6 ⟨rfl, hc6, hh6⟩
              have hgne : gk ≠ w.heap.size + 1 + 1 := by omega
              have HO6 := Aside0.mk ((HO.out.keep (w' := w6) (fun b hb => by cases hb; exact hc6.block gk hgk2 hgne)).cut h128)
              have HE6 := Aside0.mk hh6
              have HR26 : Aside0 (Row w6 w.heap.size .u8 64 (fun _ => 0) 24) := ⟨(hc6.block _ HR2.out.lt (by omega)).trans HR2.out⟩
              have HR36 : Aside0 (Row w6 (w.heap.size + 1) .u8 64 (fun _ => 0) 24) := ⟨(hc6.block _ HR3.out.lt (by omega)).trans HR3.out⟩
              have HT6 := Aside0.mk (HT.out.keep (hc6.block _ HT.out.lt (by omega)))
              have HB6 := Aside0.mk (Chg.below HB.out hc6 hszb (fun b e => by omega))
              clear hc6 hh6 HBK
              go_wp2_with fail
              refine ⟨⟨k + 1, by omega, ?_, HE6.out, HR26.out, HR36.out, HT6.out, HB6.out⟩, ?_⟩
              · unfold OwnB
                rw [show pl - 128 * (n / 128 + (k + 1)) = L - 128 by omega]
                exact HO6.out.congr (fun j hj => by rw [show 128 * (n / 128 + k) + (128 + j) = 128 * (n / 128 + (k + 1)) + j by omega])
              · show L - 128 < L
                omega
        · obtain ⟨t, rfl⟩ : ∃ t, r = t + 1 := ⟨r - 1, by omega⟩
          rw [show (((t + 1 : Nat) : Int) - 1) = (t : Int) by omega]
          obtain ⟨T, hT⟩ : ∃ T, pl - (t + 1) - 128 * (n / 128) = T := ⟨_, rfl⟩
          have HOT : Aside0 (OwnB wr (w.heap.size + 1 + 1 + 1) (.slice x6 T c6) T (fun j => pad z n (128 * (n / 128) + j))) := ⟨by rw [← hT]; exact HOW.out⟩
          rw [hT]
          have k9 := (HHb.out.below HB.out (by omega)).cell9
          have hge : ((t : Int) ≥ 0) = True := eq_true (by omega)
          have q1 : wrap64 (8 * (t : Int)) = 8 * (t : Int) := w64 _ (by omega)
          have q2 : IntKind.i64.wrap (8 * (t : Int)) = 8 * (t : Int) := i64w _ (by omega)
          have q3 : IntKind.u64.wrap ((n : Int) * 8) = (n : Int) * 8 := u64w _ (by omega) (by omega)
          have q4 : (8 * (t : Int)).toNat = 8 * t := by omega
          have q5 : 0 ≤ 8 * (t : Int) := by omega
          have q6 : 8 * (t : Int) ≤ 64 := by omega
          have q7 := lb_shift n t
          have HOa := Aside0.mk (HOT.out.alloc (.cells #[.int .u8 (lb n t)] 5))
          have HBa := Aside0.mk (HB.out.alloc (by omega) (.cells #[.int .u8 (lb n t)] 5))
          have HSa := Aside0.mk (Nat.le_trans HS11.out HBa.out.size)
          have hTb : T ≤ pl := by omega
          go_wp2_with (refine step_append HOa.out (NumsAt.one .u8 _ _ _) Tryd.underlying22 info8p rfl rfl rfl rfl rfl (fun e => by cases e) (by unfold maxLen; omega) (by omega) HSa.out ?_; intro v5 w6 ho5 hg5 _ _; have HB6 := Aside0.mk (grown_bel HBa.out hg5 HSa.out (fun b hb => (HOa.out.lt b hb).1)); obtain ⟨x7, c7, rfl⟩ := ho5.form; have HO7 := Aside0.mk ho5; clear ho5 hg5)
          refine ⟨⟨t, by omega, rfl, ?_, HB6.out⟩, by simp only [intOf]; omega⟩
          unfold OwnB
          rw [show pl - t - 128 * (n / 128) = T + 1 by omega]
          exact HO7.out.congr (fun j hj => by
            by_cases h1 : j < T
            · rw [if_pos h1]
            · rw [if_neg h1, HPE.out _ (by omega), show pl - 1 - (128 * (n / 128) + j) = t by omega])
    · have hne : ((M : Int) % 128 != 112) = true := by simp; omega
      have hne2 : ((M : Int) % 128 = 112) = False := eq_false (by omega)
      have hLl : L < pl - 16 := by have := hnx; omega
      have HOa := Aside0.mk (HOW.out.alloc (.cells #[.int .u8 0] 5))
      have HBa := Aside0.mk (HB.out.alloc (by omega) (.cells #[.int .u8 0] 5))
      have hsza : w.heap.size + 1 + 1 + 1 ≤ (wr.alloc (.cells #[.int .u8 0] 5)).heap.size := by have := HBa.out.size; omega
      clear hnx hmod
      go_wp2_with (refine step_append HOa.out (NumsAt.one .u8 _ _ _) Tryd.underlying22 info8p rfl rfl rfl rfl rfl (fun e => by cases e) (by unfold maxLen; omega) (by omega) hsza ?_; intro v5 w5 ho5 hg5 _ _; have HB5 := Aside0.mk (grown_bel HBa.out hg5 hsza (fun b hb => (HOa.out.lt b hb).1)); obtain ⟨x5, c5, rfl⟩ := ho5.form; have HO5 := Aside0.mk ho5; clear ho5 hg5)
      refine ⟨⟨L + 1, by omega, by omega, ?_, HB5.out⟩, ?_⟩
      · unfold OwnB
        rw [show L + 1 - 128 * (n / 128) = M + 1 by omega]
        exact HO5.out.congr (fun j hj => by
          by_cases h1 : j < M
          · rw [if_pos h1]
          · rw [if_neg h1, HPZ.out _ (by omega) (by omega)])
      · show pl - 128 * (n / 128) - (M + 1) < pl - 128 * (n / 128) - M
        omega
end Go.Proofs.YtlopmjolahhpnaaDoor.P
