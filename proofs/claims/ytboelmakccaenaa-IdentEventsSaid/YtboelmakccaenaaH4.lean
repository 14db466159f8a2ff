/- The law LettersWrites by its walk: Encode and the document's Encode write the same letters of any bytes. -/
import Derived.Test.YtboelmakccaenaaM2
import Derived.Lib.SlBytesConst
import Derived.Outline
namespace Go.Proofs.Ytboelmakccaenaa.P
set_option linter.unusedVariables false
open Go.RowKit Go.Proofs.YtboelmakccaenaaW.PrintWords Go.Proofs.YtboelmakccaenaaW.PrintLast Go.Proofs.YtboelmakccaenaaW.PrintMore
theorem enc_calls (A : Option Addr) (c : Nat) (l : List Int) (u : Bool) (w : World) (hr0 : Kd.C (Kd.int .u8) w A l.length l) (hc0 : l.length ≤ c) (hB : Bs l) (hl : l.length ≤ 1073741824) :
    Calls Try.prog 24 #[.slice A l.length c, .bool u] w fun e w' => e = .returned (.string (encS l u)) ∧ Below w.heap.size w w' :=
  letters_Encode.calls (4 * l.length + 5) A c l u (encS l u) w hr0 hc0 (encode_eq u l hB (by omega) (Nat.le_refl _))
theorem ref_enc_calls (A : Option Addr) (c : Nat) (l : List Int) (u : Bool) (w : World) (hr0 : Kd.C (Kd.int .u8) w A l.length l) (hc0 : l.length ≤ c) (hB : Bs l) (hl : l.length ≤ 1073741824) :
    Calls Try.prog 25 #[.slice A l.length c, .bool u] w fun e w' => e = .returned (.string (encS l u)) ∧ Below w.heap.size w w' :=
  hustingsref01_Encode.calls (16 * l.length + 1) A c l u (encS l u) w hr0 hc0 (ref_encode_eq u l hB (by omega) (Nat.le_refl _))
/-- The bytes of a constant, as the walk lays them. -/
theorem const_C (w : World) (xs : List Int) (n m : Nat) (hn : xs.length ≤ 9223372036854775807) : Kd.C (Kd.int .u8) (w.alloc (.cells (nums .u8 xs).toArray 5 (n, m))) (some ⟨w.heap.size, 0, none⟩) xs.length xs := by
  refine ⟨rfl, hn, fun _ => ⟨_, rfl, fun j p hj => ⟨[.int .u8 p], rfl, rfl, fun i u hu => ?_⟩⟩⟩
  have hi : i = 0 := by
    have := (List.getElem?_eq_some_iff.1 hu).1
    simp at this; omega
  subst hi
  have hu' : (Value.int .u8 p) = u := by simpa using hu
  subst hu'
  have hj' : (Kd.int IntKind.u8).sz = 1 := rfl
  rw [hj', Nat.mul_one, Nat.add_zero, add_plain]
  rw [cell_of_row _ _ _ _ _ _ (heap_alloc_new w _)]
  simp [nums, hj]
theorem bs_of_wf {l : List Int} (h : ∀ n ∈ l, (Lit.int .u8 n).wf = true) : Bs l := fun x hx => by
  have := h x hx
  simp [Lit.wf, IntKind.min, IntKind.max, IntKind.bits, IntKind.signed] at this
  omega
theorem enc_fo : encS [102, 111] false = ⟨#[90, 109, 56]⟩ := by decide +kernel
theorem enc_const (w : World) : Calls Try.prog 24 #[.slice (some ⟨w.heap.size, 0, none⟩) 2 2, .bool false] (w.alloc (.cells #[.int .u8 102, .int .u8 111] 5 (2, 3))) fun e w' => e = .returned (.string ⟨#[90, 109, 56]⟩) ∧ Below w.heap.size w w' := by
  have h := enc_calls (some ⟨w.heap.size, 0, none⟩) 2 [102, 111] false _ (const_C w [102, 111] 2 3 (by simp)) (by simp) (by intro x hx; simp at hx; omega) (by simp)
  refine h.mono fun e w' ⟨he, hb⟩ => ⟨by rw [he, enc_fo], ?_⟩
  exact ((Below.refl _ _).alloc (Nat.le_refl _) _).trans (hb.mono (by simp))
theorem hustingslaw01_LettersWrites.walk (a0 : Option Addr) (len0 cap0 : Nat) (z0 : List Int) (w : World) (w0 : (a0 = none ∧ len0 = 0 ∧ cap0 = 0 ∧ z0 = []) ∨ ∃ x, a0 = some x ∧ len0 ≤ cap0 ∧ cap0 ≤ maxLen ∧ z0.length = cap0 ∧ (∀ i, i < z0.length → w.cell? (x.add i) = some (.int .u8 (z0.getD i 0))) ∧ ∀ n ∈ z0, (Lit.int .u8 n).wf = true) (y0 : len0 * 1 ≤ 140737488351232) :
    Calls Try.prog 4 #[.slice a0 len0 cap0] w fun e w' => e = .returned (.bool true) ∧ Below w.heap.size w w' := by
  obtain ⟨l0, rfl, hr0, hm0, hw0, hc0⟩ := ReadsInt.ofRowC w0
  have HC := Aside0.mk (Kd.C_of_reads (d := (0 : Int)) (h1 := fun _ => rfl) hr0)
  have HB := Aside0.mk (bs_of_wf hw0)
  have HL := Aside0.mk hc0
  have kc := fun (w : World) (C : Array Value) (n c : Nat) => Lib.run_convert_bytes_const (P := Try.prog) w 23 5 C n c Try.underlying23 Try.underlying5
  clear hr0 hm0 hw0 hc0 y0 w0
  by_cases hlen : 16384 < l0.length
  · have e1 : decide (16384 < (l0.length : Int)) = true := decide_eq_true (by omega)
    have e2 : decide (16384 < l0.length) = true := decide_eq_true hlen
    clear hlen
    go_enter Try.func4, Try.ntmps4
    go_wp2_with fail
    refine (enc_const _).mono ?_
    rintro e w1 ⟨rfl, hb⟩
    have HW := Aside0.mk hb; clear hb
    go_wp2_with fail
    go_ret
    exact ⟨rfl, HW.out⟩
  · have e1 : decide (16384 < (l0.length : Int)) = false := decide_eq_false (by omega)
    have e2 : decide (16384 < l0.length) = false := decide_eq_false hlen
    have HN := Aside0.mk (show l0.length ≤ 1073741824 by omega)
    clear hlen
    go_enter Try.func4, Try.ntmps4
    go_wp2_with fail
    refine (enc_const _).mono ?_
    rintro e w1 ⟨rfl, hb⟩
    have HW := Aside0.mk hb; clear hb
    go_wp2_with fail
    refine (enc_calls _ _ _ _ _ (Kd.C_below HC.out HW.out) HL.out HB.out HN.out).mono ?_
    rintro e w2 ⟨rfl, hb⟩
    have HW2 := Aside0.mk (below_then HW.out HW.out.size hb); clear hb
    go_wp2_with fail
    refine (ref_enc_calls _ _ _ _ _ (Kd.C_below HC.out HW2.out) HL.out HB.out HN.out).mono ?_
    rintro e w3 ⟨rfl, hb⟩
    have HW3 := Aside0.mk (below_then HW2.out HW2.out.size hb); clear hb
    go_wp2_with fail
    refine (enc_calls _ _ _ _ _ (Kd.C_below HC.out HW3.out) HL.out HB.out HN.out).mono ?_
    rintro e w4 ⟨rfl, hb⟩
    have HW4 := Aside0.mk (below_then HW3.out HW3.out.size hb); clear hb
    go_wp2_with fail
    refine (ref_enc_calls _ _ _ _ _ (Kd.C_below HC.out HW4.out) HL.out HB.out HN.out).mono ?_
    rintro e w5 ⟨rfl, hb⟩
    have HW5 := Aside0.mk (below_then HW4.out HW4.out.size hb); clear hb
    go_wp2_with fail
    go_ret
    exact ⟨rfl, HW5.out⟩
end Go.Proofs.Ytboelmakccaenaa.P
