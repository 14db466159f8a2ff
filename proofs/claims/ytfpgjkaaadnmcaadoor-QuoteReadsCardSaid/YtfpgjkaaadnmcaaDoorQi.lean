/- strings.IndexByte; strings.IndexRune at the digits of base 16. -/
import Derived.Test.YtfpgjkaaadnmcaaDoorQa
import Derived.Laws.Externs
import Derived.Lib.OthersKept
import Derived.WalkMore
import Derived.Laws.Runes
import Derived.Laws.RangeAny
import Derived.Lib.Bytealg
namespace Go.Proofs.YtfpgjkaaadnmcaaDoor.P
set_option linter.unusedVariables false
set_option linter.unusedSimpArgs false
open Go.RowKit Go.Proofs.YtfpgjkaaadnmcaaDoorW.PrintWords Go.Proofs.YtfpgjkaaadnmcaaDoorW.PrintLast Go.Proofs.YtfpgjkaaadnmcaaDoorW.PrintMore
set_option maxRecDepth 100000 in
theorem ib104_calls (s : ByteArray) (c : Int) (w : World) :
    Calls Tryd.prog 27 #[.string s, .int .u8 c] w fun e w' => e = .returned (.int .i64 (Lib.indexByte s.data.toList c.toNat.toUInt8)) ∧ w' = w := by
  go_enter Tryd.func27, Tryd.ntmps27
  go_wp2
  rw [run_callFunc_extern Tryd.func29 (by kernel_rfl) (by kernel_rfl) (by kernel_rfl) (e := Extern.BytealgIndexByte.indexByte) (by kernel_rfl), Lib.run_indexByteString]
  simp only [Result.andThen]
  rw [Oper.upon_value]
  go_wp2
  go_ret
  exact ⟨rfl, rfl⟩
theorem ib_calls (s : ByteArray) (c : Int) (r : Int) (w : World) (h : Lib.indexByte s.data.toList c.toNat.toUInt8 = r) :
    Calls Tryd.prog 22 #[.string s, .int .u8 c] w fun e w' => e = .returned (.int .i64 r) ∧ w' = w := by
  subst h
  go_enter Tryd.func22, Tryd.ntmps22
  go_wp2_with (go_at_call 27; refine (ib104_calls s c _).mono ?_; rintro e w1 ⟨rfl, rfl⟩)
  go_ret
  exact ⟨rfl, rfl⟩
theorem ib_none : ∀ (l : List UInt8) (c : UInt8), (∀ x ∈ l, x ≠ c) → Lib.indexByte l c = -1
  | [], c, _ => rfl
  | b :: l, c, h => by
    have h1 : (b == c) = false := beq_eq_false_iff_ne.mpr (h b (List.mem_cons_self ..))
    have h2 := ib_none l c (fun x hx => h x (List.mem_cons_of_mem _ hx))
    simp only [Lib.indexByte, h1, h2]
    rfl
theorem ib_high (s : ByteArray) (c : Int) (w : World) (hl : ∀ x ∈ s.data.toList, x.toNat < 128) (h0 : 128 ≤ c) (h1 : c < 256) :
    Calls Tryd.prog 22 #[.string s, .int .u8 c] w fun e w' => e = .returned (.int .i64 (-1)) ∧ w' = w := by
  refine ib_calls s c (-1) w (ib_none _ _ fun x hx hc => ?_)
  have h2 := hl x hx
  have h3 : c.toNat.toUInt8.toNat = c.toNat := by simp [Nat.toUInt8]; omega
  rw [hc] at h2
  omega
theorem extract_low (z : ByteArray) (hz : ∀ x ∈ z.data.toList, x.toNat < 128) (n m : Nat) : ∀ x ∈ (z.extract n m).data.toList, x.toNat < 128 := by
  intro x hx
  apply hz
  rw [ByteArray.data_extract, Array.toList_extract, List.extract_eq_take_drop] at hx
  exact List.mem_of_mem_drop (List.mem_of_mem_take hx)
theorem encode_len (v : Int) (h : validR v) (h1 : 128 ≤ v) : Utf8.valid v = true := by
  obtain ⟨n, rfl⟩ : ∃ n : Nat, v = (n : Int) := ⟨v.toNat, by unfold validR at h; omega⟩
  exact (valid_iff n).mpr h
theorem valid106_calls (r : Int) (w : World) (hv : validR r) (h1 : 128 ≤ r) :
    Calls Tryd.prog 30 #[.int .i32 r] w fun e w' => e = .returned (.bool true) ∧ Drawn0 w w' := by
  unfold validR at hv
  have a1 : decide ((0 : Int) ≤ r) = true := decide_eq_true (by omega)
  have a4 : decide (r ≤ 1114111) = true := decide_eq_true (by omega)
  by_cases hl : r < 55296
  · have a2 : decide (r < 55296) = true := decide_eq_true hl
    clear hl hv
    go_enter Tryd.func30, Tryd.ntmps30
    go_wp2
    go_ret
    exact ⟨rfl, Drawn0.refl _⟩
  · have a2 : decide (r < 55296) = false := decide_eq_false hl
    have a3 : decide (57343 < r) = true := decide_eq_true (by omega)
    clear hl hv
    go_enter Tryd.func30, Tryd.ntmps30
    go_wp2
    go_ret
    exact ⟨rfl, Drawn0.refl _⟩
theorem last_facts (rs : ByteArray) (k : Nat) (hk : rs.size = k + 1) (he : ∀ h : rs.size - 1 < rs.size, 128 ≤ (rs[rs.size - 1]'h).toNat) (h : k < rs.size) :
    128 ≤ ((rs[k]'h).toNat : Int) ∧ ((rs[k]'h).toNat : Int) < 256 := by
  have h2 : rs.size - 1 = k := by omega
  have h1 : 128 ≤ (rs[k]'h).toNat := by
    have := he (by omega)
    simp only [h2] at this
    exact this
  have := (rs[k]'h).toNat_lt
  omega
set_option maxRecDepth 100000 in
theorem index_high1 (r : Int) (rs : ByteArray) (w : World) (hv : validR r) (h1 : 128 ≤ r) (hne : r ≠ 65533) (hrs : Utf8.encode r = rs) (hsz : rs.size = 1 + 1)
    (he : ∀ h : rs.size - 1 < rs.size, 128 ≤ (rs[rs.size - 1]'h).toNat) :
    Calls Tryd.prog 28 #[.string ⟨#[48, 49, 50, 51, 52, 53, 54, 55, 56, 57, 97, 98, 99, 100, 101, 102]⟩, .int .i32 r] w fun e w' => e = .returned (.int .i64 (-1)) ∧ Drawn0 w w' := by
  have hlt : 1 < rs.size := by omega
  obtain ⟨b1, b2⟩ := last_facts rs 1 hsz he hlt
  have a1 : decide ((0 : Int) ≤ r) = true := decide_eq_true (by omega)
  have a2 : decide (r < 128) = false := decide_eq_false (by omega)
  have a3 : (r == 65533) = false := beq_eq_false_iff_ne.mpr hne
  generalize hb : ((rs[1]'hlt).toNat : Int) = b at b1 b2
  have B1 := Aside0.mk b1
  have B2 := Aside0.mk b2
  have HV := Aside0.mk hv
  have H1 := Aside0.mk h1
  have c1 : (49 : Int) ≠ b := by omega
  have c2 : ((((⟨#[48, 49, 50, 51, 52, 53, 54, 55, 56, 57, 97, 98, 99, 100, 101, 102]⟩ : ByteArray)[1]'(by decide)).toNat : Int) != b) = true := bne_iff_ne.mpr c1
  have hsz2 : (rs.size : Int) = 1 + 1 := by omega
  clear he b1 b2 hv h1 hne c1 hsz
  go_enter Tryd.func28, Tryd.ntmps28
  go_wp2_with (go_at_call 30; refine (valid106_calls r _ HV.out H1.out).mono ?_; rintro e w1 ⟨rfl, ⟨m1, rfl⟩⟩)
  go_step3
  go_wp2_with fail
  go_loopw [9] (fun v9 wr => v9 = .int .i64 1 ∧ wr = w.drewN m1) (fun _ _ => 0)
  case atStart => exact ⟨rfl, rfl⟩
  case round =>
    obtain ⟨rfl, rfl⟩ := hrel
    go_wp2_with fail
    go_step3
    go_wp2_with fail
    go_region
    go_wp2_with fail
    go_region_with (go_at_call 22; refine (ib_high _ _ _ (extract_low _ (by decide) _ _) B1.out B2.out).mono ?_; rintro e w1 ⟨rfl, rfl⟩)
    all_goals go_wp2_with fail
    all_goals repeat (first | rw [Exit.noGoto_ret] | rw [Exit.inBlock_ret])
    all_goals go_wp2_with fail
    all_goals repeat (first | rw [Exit.noGoto_ret] | rw [Exit.inBlock_ret])
    all_goals go_ret
    all_goals exact ⟨rfl, _, rfl⟩
set_option maxRecDepth 100000 in
theorem index_high2 (r : Int) (rs : ByteArray) (w : World) (hv : validR r) (h1 : 128 ≤ r) (hne : r ≠ 65533) (hrs : Utf8.encode r = rs) (hsz : rs.size = 2 + 1)
    (he : ∀ h : rs.size - 1 < rs.size, 128 ≤ (rs[rs.size - 1]'h).toNat) :
    Calls Tryd.prog 28 #[.string ⟨#[48, 49, 50, 51, 52, 53, 54, 55, 56, 57, 97, 98, 99, 100, 101, 102]⟩, .int .i32 r] w fun e w' => e = .returned (.int .i64 (-1)) ∧ Drawn0 w w' := by
  have hlt : 2 < rs.size := by omega
  obtain ⟨b1, b2⟩ := last_facts rs 2 hsz he hlt
  have a1 : decide ((0 : Int) ≤ r) = true := decide_eq_true (by omega)
  have a2 : decide (r < 128) = false := decide_eq_false (by omega)
  have a3 : (r == 65533) = false := beq_eq_false_iff_ne.mpr hne
  generalize hb : ((rs[2]'hlt).toNat : Int) = b at b1 b2
  have B1 := Aside0.mk b1
  have B2 := Aside0.mk b2
  have HV := Aside0.mk hv
  have H1 := Aside0.mk h1
  have c1 : (50 : Int) ≠ b := by omega
  have c2 : ((((⟨#[48, 49, 50, 51, 52, 53, 54, 55, 56, 57, 97, 98, 99, 100, 101, 102]⟩ : ByteArray)[2]'(by decide)).toNat : Int) != b) = true := bne_iff_ne.mpr c1
  have hsz2 : (rs.size : Int) = 2 + 1 := by omega
  clear he b1 b2 hv h1 hne c1 hsz
  go_enter Tryd.func28, Tryd.ntmps28
  go_wp2_with (go_at_call 30; refine (valid106_calls r _ HV.out H1.out).mono ?_; rintro e w1 ⟨rfl, ⟨m1, rfl⟩⟩)
  go_step3
  go_wp2_with fail
  go_loopw [9] (fun v9 wr => v9 = .int .i64 2 ∧ wr = w.drewN m1) (fun _ _ => 0)
  case atStart => exact ⟨rfl, rfl⟩
  case round =>
    obtain ⟨rfl, rfl⟩ := hrel
    go_wp2_with fail
    go_step3
    go_wp2_with fail
    go_region
    go_wp2_with fail
    go_region_with (go_at_call 22; refine (ib_high _ _ _ (extract_low _ (by decide) _ _) B1.out B2.out).mono ?_; rintro e w1 ⟨rfl, rfl⟩)
    all_goals go_wp2_with fail
    all_goals repeat (first | rw [Exit.noGoto_ret] | rw [Exit.inBlock_ret])
    all_goals go_wp2_with fail
    all_goals repeat (first | rw [Exit.noGoto_ret] | rw [Exit.inBlock_ret])
    all_goals go_ret
    all_goals exact ⟨rfl, _, rfl⟩
set_option maxRecDepth 100000 in
theorem index_high3 (r : Int) (rs : ByteArray) (w : World) (hv : validR r) (h1 : 128 ≤ r) (hne : r ≠ 65533) (hrs : Utf8.encode r = rs) (hsz : rs.size = 3 + 1)
    (he : ∀ h : rs.size - 1 < rs.size, 128 ≤ (rs[rs.size - 1]'h).toNat) :
    Calls Tryd.prog 28 #[.string ⟨#[48, 49, 50, 51, 52, 53, 54, 55, 56, 57, 97, 98, 99, 100, 101, 102]⟩, .int .i32 r] w fun e w' => e = .returned (.int .i64 (-1)) ∧ Drawn0 w w' := by
  have hlt : 3 < rs.size := by omega
  obtain ⟨b1, b2⟩ := last_facts rs 3 hsz he hlt
  have a1 : decide ((0 : Int) ≤ r) = true := decide_eq_true (by omega)
  have a2 : decide (r < 128) = false := decide_eq_false (by omega)
  have a3 : (r == 65533) = false := beq_eq_false_iff_ne.mpr hne
  generalize hb : ((rs[3]'hlt).toNat : Int) = b at b1 b2
  have B1 := Aside0.mk b1
  have B2 := Aside0.mk b2
  have HV := Aside0.mk hv
  have H1 := Aside0.mk h1
  have c1 : (51 : Int) ≠ b := by omega
  have c2 : ((((⟨#[48, 49, 50, 51, 52, 53, 54, 55, 56, 57, 97, 98, 99, 100, 101, 102]⟩ : ByteArray)[3]'(by decide)).toNat : Int) != b) = true := bne_iff_ne.mpr c1
  have hsz2 : (rs.size : Int) = 3 + 1 := by omega
  clear he b1 b2 hv h1 hne c1 hsz
  go_enter Tryd.func28, Tryd.ntmps28
  go_wp2_with (go_at_call 30; refine (valid106_calls r _ HV.out H1.out).mono ?_; rintro e w1 ⟨rfl, ⟨m1, rfl⟩⟩)
  go_step3
  go_wp2_with fail
  go_loopw [9] (fun v9 wr => v9 = .int .i64 3 ∧ wr = w.drewN m1) (fun _ _ => 0)
  case atStart => exact ⟨rfl, rfl⟩
  case round =>
    obtain ⟨rfl, rfl⟩ := hrel
    go_wp2_with fail
    go_step3
    go_wp2_with fail
    go_region
    go_wp2_with fail
    go_region_with (go_at_call 22; refine (ib_high _ _ _ (extract_low _ (by decide) _ _) B1.out B2.out).mono ?_; rintro e w1 ⟨rfl, rfl⟩)
    all_goals go_wp2_with fail
    all_goals repeat (first | rw [Exit.noGoto_ret] | rw [Exit.inBlock_ret])
    all_goals go_wp2_with fail
    all_goals repeat (first | rw [Exit.noGoto_ret] | rw [Exit.inBlock_ret])
    all_goals go_ret
    all_goals exact ⟨rfl, _, rfl⟩
def ErrRel (w wr : World) : Prop := ∃ pos : Nat, pos ≤ 16 ∧ wr.heap[w.heap.size]? = some (.stringIter ⟨#[48, 49, 50, 51, 52, 53, 54, 55, 56, 57, 97, 98, 99, 100, 101, 102]⟩ pos) ∧ Below w.heap.size w wr
theorem sign_dec : ∀ p : Fin 16, (Utf8.decode ⟨#[48, 49, 50, 51, 52, 53, 54, 55, 56, 57, 97, 98, 99, 100, 101, 102]⟩ p.val).1 < 128 ∧ (Utf8.decode ⟨#[48, 49, 50, 51, 52, 53, 54, 55, 56, 57, 97, 98, 99, 100, 101, 102]⟩ p.val).2 = 1 := by decide
set_option maxRecDepth 100000 in
theorem index_err (w : World) :
    Calls Tryd.prog 28 #[.string ⟨#[48, 49, 50, 51, 52, 53, 54, 55, 56, 57, 97, 98, 99, 100, 101, 102]⟩, .int .i32 65533] w fun e w' => e = .returned (.int .i64 (-1)) ∧ Below w.heap.size w w' := by
  go_enter Tryd.func28, Tryd.ntmps28
  go_wp2_with fail
  go_loopw [5, 6] (fun v5 v6 wr => ErrRel w wr) (fun _ _ w' => 16 - w'.iterPos w.heap.size)
  case atStart => exact ⟨0, by omega, heap_alloc_new w _, (Below.refl _ _).alloc (Nat.le_refl _) _⟩
  case round =>
    obtain ⟨pos, hpos, hit, hbel⟩ := hrel
    have HI := Aside0.mk hit
    have HB := Aside0.mk hbel
    clear hit hbel
    by_cases hlt : pos < 16
    · have hnx := fun ty => Lib.run_next_any_at (P := Tryd.prog) wr w.heap.size ⟨#[48, 49, 50, 51, 52, 53, 54, 55, 56, 57, 97, 98, 99, 100, 101, 102]⟩ pos ty HI.out hlt
      have hd := sign_dec ⟨pos, hlt⟩
      simp only at hd
      generalize Utf8.decode ⟨#[48, 49, 50, 51, 52, 53, 54, 55, 56, 57, 97, 98, 99, 100, 101, 102]⟩ pos = d at hd hnx
      obtain ⟨v, n⟩ := d
      obtain ⟨d1, d2⟩ := hd
      simp only at d1 d2
      subst d2
      have d3 : ((v : Int) == 65533) = false := beq_eq_false_iff_ne.mpr (by omega)
      clear d1
      go_wp2_with fail
      have hit1 : (wr.iterAt w.heap.size ⟨#[48, 49, 50, 51, 52, 53, 54, 55, 56, 57, 97, 98, 99, 100, 101, 102]⟩ (pos + 1)).heap[w.heap.size]? = some (.stringIter ⟨#[48, 49, 50, 51, 52, 53, 54, 55, 56, 57, 97, 98, 99, 100, 101, 102]⟩ (pos + 1)) := Lib.iterAt_heap _ _ _ _ _ HI.out
      refine ⟨⟨pos + 1, by omega, hit1, Lib.below_iterAt HB.out (Nat.le_refl _) _ _⟩, ?_⟩
      rw [iterPos_of hit1, iterPos_of HI.out]; omega
    · have hnx := fun ty => Lib.run_next_end_at (P := Tryd.prog) wr w.heap.size ⟨#[48, 49, 50, 51, 52, 53, 54, 55, 56, 57, 97, 98, 99, 100, 101, 102]⟩ pos ty HI.out hlt
      go_wp2_with fail
      go_ret
      exact ⟨rfl, HB.out⟩
theorem index_high (r : Int) (w : World) (hv : validR r) (h1 : 128 ≤ r) :
    Calls Tryd.prog 28 #[.string ⟨#[48, 49, 50, 51, 52, 53, 54, 55, 56, 57, 97, 98, 99, 100, 101, 102]⟩, .int .i32 r] w fun e w' => e = .returned (.int .i64 (-1)) ∧ Below w.heap.size w w' := by
  by_cases hne : r = 65533
  · subst hne
    exact index_err w
  · obtain ⟨e1, e2, e3⟩ := encode_facts r (encode_len r hv h1) h1
    have hcase : (Utf8.encode r).size = 1 + 1 ∨ (Utf8.encode r).size = 2 + 1 ∨ (Utf8.encode r).size = 3 + 1 := by omega
    rcases hcase with h | h | h
    · exact (index_high1 r _ w hv h1 hne rfl h e3).mono (by rintro e w' ⟨rfl, ⟨m, rfl⟩⟩; exact ⟨rfl, pw_below_drewN (Below.refl _ _) _⟩)
    · exact (index_high2 r _ w hv h1 hne rfl h e3).mono (by rintro e w' ⟨rfl, ⟨m, rfl⟩⟩; exact ⟨rfl, pw_below_drewN (Below.refl _ _) _⟩)
    · exact (index_high3 r _ w hv h1 hne rfl h e3).mono (by rintro e w' ⟨rfl, ⟨m, rfl⟩⟩; exact ⟨rfl, pw_below_drewN (Below.refl _ _) _⟩)
end Go.Proofs.YtfpgjkaaadnmcaaDoor.P
