/- The law QuoteRunes, by its walk. -/
import Derived.Test.YtfpgjkaaadnmcaaDoorQp
import Derived.Deep.QuietTactic
import Derived.BigQuiet
namespace Go.Proofs.YtfpgjkaaadnmcaaDoor.P
set_option linter.unusedVariables false
set_option linter.unusedSimpArgs false
open Go.RowKit Go.Proofs.YtfpgjkaaadnmcaaDoorW.PrintWords Go.Proofs.YtfpgjkaaadnmcaaDoorW.PrintLast Go.Proofs.YtfpgjkaaadnmcaaDoorW.PrintMore
attribute [local go_sem] setCell_drewN
def upD (n : Int) : Int := if n < 10 then 48 + n else 55 + n
def esc4 (n : Int) : List Int := [92, 117, upD (n / 4096 % 16), upD (n / 256 % 16), upD (n / 16 % 16), upD (n % 16)]
theorem dig_cut : ∀ k : Fin 16, (⟨#[48, 49, 50, 51, 52, 53, 54, 55, 56, 57, 65, 66, 67, 68, 69, 70]⟩ : ByteArray).extract k.val (k.val + 1) = strOfNums [upD (k.val : Int)] := by decide
theorem and_mask (x : Int) (k m : Nat) (hk : k ≤ 20) (hm : m = 2 ^ k - 1) (h : 0 ≤ x) (h2 : x < 2147483648) : Go.bits .and .i64 x (m : Int) = x % ((2 ^ k : Nat) : Int) := by
  obtain ⟨a, rfl⟩ := Int.eq_ofNat_of_zero_le h
  have hmb : m < 2 ^ 63 := by
    have : 2 ^ k ≤ 2 ^ 20 := Nat.pow_le_pow_right (by omega) hk
    have e : (2 : Nat) ^ 20 = 1048576 := by decide
    omega
  have h1 := (bits_nat .i64 63 (by decide) (fun n h0 h1 => i64w n (by omega)) a m (by omega) hmb).1
  rw [h1, hm, Nat.and_two_pow_sub_one_eq_mod, Int.natCast_emod]
theorem and15i (x : Int) (h : 0 ≤ x) (h2 : x < 2147483648) : Go.bits .and .i64 x 15 = x % 16 := and_mask x 4 15 (by decide) (by decide) h h2
theorem str_app (a b : List Int) : strOfNums a ++ strOfNums b = strOfNums (a ++ b) := by
  apply ByteArray.ext
  simp [strOfNums, ByteArray.data_append]
set_option maxRecDepth 100000 in
set_option maxHeartbeats 1000000 in
theorem esc_calls (n : Int) (g : Nat) (w : World) (hn : 0 ≤ n ∧ n < 65536) (hc : w.cell? ⟨g, 0, none⟩ = some (.string ⟨#[48, 49, 50, 51, 52, 53, 54, 55, 56, 57, 65, 66, 67, 68, 69, 70]⟩)) :
    Calls Tryd.prog 12 #[.int .i64 n, .pointer (some ⟨g, 0, none⟩)] w fun e w' => e = .returned (.string (strOfNums (esc4 n))) ∧ ∃ k, w' = w.drewN k := by
  have e0 := hn.1
  have e1 := hn.2
  obtain ⟨k0, hk0⟩ : ∃ k : Nat, n / 4096 % 16 = (k : Int) := ⟨(n / 4096 % 16).toNat, by omega⟩
  have b0 : k0 < 16 := by omega
  have a0 : Go.bits .and .i64 (n / 4096) 15 = (k0 : Int) := (and15i _ (by omega) (by omega)).trans hk0
  obtain ⟨y0, hy0⟩ : ∃ y, y = strOfNums [upD (k0 : Int)] := ⟨_, rfl⟩
  have s0 : y0.size = 1 := by rw [hy0]; rfl
  have d0 : (⟨#[48, 49, 50, 51, 52, 53, 54, 55, 56, 57, 65, 66, 67, 68, 69, 70]⟩ : ByteArray).extract k0 (k0 + 1) = y0 := (dig_cut ⟨k0, b0⟩).trans hy0.symm
  have w0 : IntKind.i64.wrap ((k0 : Int) + 1) = (k0 : Int) + 1 := i64w _ (by omega)
  have t0 : ((k0 : Int) + 1).toNat = k0 + 1 := by omega
  have c0 : (k0 : Int) + 1 ≤ 16 := by omega
  have sl0 : ∀ w, (Instr.slice 9 (.string ⟨#[48, 49, 50, 51, 52, 53, 54, 55, 56, 57, 65, 66, 67, 68, 69, 70]⟩) (some (.int .i64 (k0 : Int))) (some (.int .i64 ((k0 : Int) + 1))) none).run Tryd.prog w = .ok (.string y0) w := fun w => by rw [run_slice_string w 9 _ .i64 .i64 _ _ Tryd.underlying9 (by omega) (by omega) (by show (k0 : Int) + 1 ≤ 16; omega)]; rw [t0, Int.toNat_natCast, d0]
  have HY0 := Aside0.mk hy0
  have HK0 := Aside0.mk hk0
  clear hy0 hk0
  obtain ⟨k1, hk1⟩ : ∃ k : Nat, n / 256 % 16 = (k : Int) := ⟨(n / 256 % 16).toNat, by omega⟩
  have b1 : k1 < 16 := by omega
  have a1 : Go.bits .and .i64 (n / 256) 15 = (k1 : Int) := (and15i _ (by omega) (by omega)).trans hk1
  obtain ⟨y1, hy1⟩ : ∃ y, y = strOfNums [upD (k1 : Int)] := ⟨_, rfl⟩
  have s1 : y1.size = 1 := by rw [hy1]; rfl
  have d1 : (⟨#[48, 49, 50, 51, 52, 53, 54, 55, 56, 57, 65, 66, 67, 68, 69, 70]⟩ : ByteArray).extract k1 (k1 + 1) = y1 := (dig_cut ⟨k1, b1⟩).trans hy1.symm
  have w1 : IntKind.i64.wrap ((k1 : Int) + 1) = (k1 : Int) + 1 := i64w _ (by omega)
  have t1 : ((k1 : Int) + 1).toNat = k1 + 1 := by omega
  have c1 : (k1 : Int) + 1 ≤ 16 := by omega
  have sl1 : ∀ w, (Instr.slice 9 (.string ⟨#[48, 49, 50, 51, 52, 53, 54, 55, 56, 57, 65, 66, 67, 68, 69, 70]⟩) (some (.int .i64 (k1 : Int))) (some (.int .i64 ((k1 : Int) + 1))) none).run Tryd.prog w = .ok (.string y1) w := fun w => by rw [run_slice_string w 9 _ .i64 .i64 _ _ Tryd.underlying9 (by omega) (by omega) (by show (k1 : Int) + 1 ≤ 16; omega)]; rw [t1, Int.toNat_natCast, d1]
  have HY1 := Aside0.mk hy1
  have HK1 := Aside0.mk hk1
  clear hy1 hk1
  obtain ⟨k2, hk2⟩ : ∃ k : Nat, n / 16 % 16 = (k : Int) := ⟨(n / 16 % 16).toNat, by omega⟩
  have b2 : k2 < 16 := by omega
  have a2 : Go.bits .and .i64 (n / 16) 15 = (k2 : Int) := (and15i _ (by omega) (by omega)).trans hk2
  obtain ⟨y2, hy2⟩ : ∃ y, y = strOfNums [upD (k2 : Int)] := ⟨_, rfl⟩
  have s2 : y2.size = 1 := by rw [hy2]; rfl
  have d2 : (⟨#[48, 49, 50, 51, 52, 53, 54, 55, 56, 57, 65, 66, 67, 68, 69, 70]⟩ : ByteArray).extract k2 (k2 + 1) = y2 := (dig_cut ⟨k2, b2⟩).trans hy2.symm
  have w2 : IntKind.i64.wrap ((k2 : Int) + 1) = (k2 : Int) + 1 := i64w _ (by omega)
  have t2 : ((k2 : Int) + 1).toNat = k2 + 1 := by omega
  have c2 : (k2 : Int) + 1 ≤ 16 := by omega
  have sl2 : ∀ w, (Instr.slice 9 (.string ⟨#[48, 49, 50, 51, 52, 53, 54, 55, 56, 57, 65, 66, 67, 68, 69, 70]⟩) (some (.int .i64 (k2 : Int))) (some (.int .i64 ((k2 : Int) + 1))) none).run Tryd.prog w = .ok (.string y2) w := fun w => by rw [run_slice_string w 9 _ .i64 .i64 _ _ Tryd.underlying9 (by omega) (by omega) (by show (k2 : Int) + 1 ≤ 16; omega)]; rw [t2, Int.toNat_natCast, d2]
  have HY2 := Aside0.mk hy2
  have HK2 := Aside0.mk hk2
  clear hy2 hk2
  obtain ⟨k3, hk3⟩ : ∃ k : Nat, n % 16 = (k : Int) := ⟨(n % 16).toNat, by omega⟩
  have b3 : k3 < 16 := by omega
  have a3 : Go.bits .and .i64 (n) 15 = (k3 : Int) := (and15i _ (by omega) (by omega)).trans hk3
  obtain ⟨y3, hy3⟩ : ∃ y, y = strOfNums [upD (k3 : Int)] := ⟨_, rfl⟩
  have s3 : y3.size = 1 := by rw [hy3]; rfl
  have d3 : (⟨#[48, 49, 50, 51, 52, 53, 54, 55, 56, 57, 65, 66, 67, 68, 69, 70]⟩ : ByteArray).extract k3 (k3 + 1) = y3 := (dig_cut ⟨k3, b3⟩).trans hy3.symm
  have w3 : IntKind.i64.wrap ((k3 : Int) + 1) = (k3 : Int) + 1 := i64w _ (by omega)
  have t3 : ((k3 : Int) + 1).toNat = k3 + 1 := by omega
  have c3 : (k3 : Int) + 1 ≤ 16 := by omega
  have sl3 : ∀ w, (Instr.slice 9 (.string ⟨#[48, 49, 50, 51, 52, 53, 54, 55, 56, 57, 65, 66, 67, 68, 69, 70]⟩) (some (.int .i64 (k3 : Int))) (some (.int .i64 ((k3 : Int) + 1))) none).run Tryd.prog w = .ok (.string y3) w := fun w => by rw [run_slice_string w 9 _ .i64 .i64 _ _ Tryd.underlying9 (by omega) (by omega) (by show (k3 : Int) + 1 ≤ 16; omega)]; rw [t3, Int.toNat_natCast, d3]
  have HY3 := Aside0.mk hy3
  have HK3 := Aside0.mk hk3
  clear hy3 hk3
  clear hn
  go_enter Tryd.func12, Tryd.ntmps12
  go_wp2_with fail
  go_quiet (fail)
  go_wp2_with fail
  go_ret
  refine ⟨?_, _, rfl⟩
  rw [HY0.out, HY1.out, HY2.out, HY3.out, show (⟨#[92, 117]⟩ : ByteArray) = strOfNums [92, 117] from rfl, str_app, str_app, str_app, str_app]
  unfold esc4
  rw [HK0.out, HK1.out, HK2.out, HK3.out]
  rfl
theorem hv_upD : ∀ n : Fin 16, hv (upD (n.val : Int)) = some (n.val : Int) := by decide
theorem upD_b : ∀ n : Fin 16, 0 ≤ upD (n.val : Int) ∧ upD (n.val : Int) ≤ 255 := by decide
theorem hx4_esc (n : Int) (h : 0 ≤ n ∧ n < 65536) (t : List Int) : hx4 (upD (n / 4096 % 16) :: upD (n / 256 % 16) :: upD (n / 16 % 16) :: upD (n % 16) :: t) = some n := by
  have g : ∀ x : Int, hv (upD (x % 16)) = some (x % 16) := fun x => by
    have := hv_upD ⟨(x % 16).toNat, by omega⟩
    have e : (((x % 16).toNat : Nat) : Int) = x % 16 := by omega
    simp only [e] at this
    exact this
  rw [hx4_four _ _ _ _ t (g _) (g _) (g _) (g _)]
  congr 1
  omega
theorem esc4_bs (n : Int) : Bs (esc4 n) := by
  have g : ∀ x : Int, 0 ≤ upD (x % 16) ∧ upD (x % 16) ≤ 255 := fun x => by
    have := upD_b ⟨(x % 16).toNat, by omega⟩
    have e : (((x % 16).toNat : Nat) : Int) = x % 16 := by omega
    simp only [e] at this
    exact this
  exact .cons (by omega) (.cons (by omega) (.cons (g _) (.cons (g _) (.cons (g _) (.cons (g _) (fun x hx => by cases hx))))))
theorem bs34 : Bs [34] := .cons (by omega) (fun x hx => by cases hx)
/-- An escape of four digits between quotes. -/
theorem tk_one (n : Int) (h : 0 ≤ n ∧ n < 65536) : tk [] (esc4 n ++ [34]) = if 55296 ≤ n ∧ n < 57344 then none else some (encR n, 1) := by
  have hB : Bs (esc4 n ++ [34]) := (esc4_bs n).app bs34
  have hx := hx4_esc n h [34]
  by_cases h1 : 55296 ≤ n ∧ n < 57344
  · rw [if_pos h1]
    show tk [] (92 :: 117 :: (upD (n / 4096 % 16) :: upD (n / 256 % 16) :: upD (n / 16 % 16) :: upD (n % 16) :: [34])) = none
    refine tk_none (by omega) ?_
    simp only [nxtT, if_true, escP, un_u, hx]
    rw [if_neg (fun h => h rfl)]
    by_cases h2 : 56320 ≤ n ∧ n < 57344
    · rw [if_pos h2]
    · rw [if_neg h2, if_neg (by omega), if_pos (by simp)]
  · rw [if_neg h1]
    have hn : nxtT (92 :: 117 :: (upD (n / 4096 % 16) :: upD (n / 256 % 16) :: upD (n / 16 % 16) :: upD (n % 16) :: [34])) = some (n, 6) := by
      simp only [nxtT, if_true, escP, un_u, hx]
      rw [if_neg (fun h => h rfl), if_neg (by omega), if_pos (by omega)]
    have := tk_some (out := []) hB (show (92 : Int) ≠ 34 by omega) hn
    refine this.trans ?_
    exact tk_end _ []
/-- An escape of two of them. -/
theorem tk_two (a b : Int) (ha : 55296 ≤ a ∧ a < 56320) (hb : 56320 ≤ b ∧ b < 57344) : tk [] (esc4 a ++ esc4 b ++ [34]) = some (encR (65536 + (a - 55296) * 1024 + (b - 56320)), 1) := by
  have hB : Bs (esc4 a ++ esc4 b ++ [34]) := ((esc4_bs a).app (esc4_bs b)).app bs34
  have hx := hx4_esc a ⟨by omega, by omega⟩ (esc4 b ++ [34])
  have hy := hx4_esc b ⟨by omega, by omega⟩ [34]
  have hn : nxtT (92 :: 117 :: (upD (a / 4096 % 16) :: upD (a / 256 % 16) :: upD (a / 16 % 16) :: upD (a % 16) :: (esc4 b ++ [34]))) = some (65536 + (a - 55296) * 1024 + (b - 56320), 12) := by
    simp only [nxtT, if_true, escP, un_u, hx]
    rw [if_neg (fun h => h rfl), if_neg (by omega), if_neg (by omega), if_neg (fun h => h rfl)]
    show (match (match hx4 (upD (b / 4096 % 16) :: upD (b / 256 % 16) :: upD (b / 16 % 16) :: upD (b % 16) :: [34]) with | none => none | some m => if m < 56320 ∨ 57344 ≤ m then none else some (65536 + (a - 55296) * 1024 + (m - 56320), 11)) with | some (v, n) => some (v, n + 1) | none => none) = _
    rw [hy]
    simp only
    rw [if_neg (by omega)]
  have := tk_some (out := []) hB (show (92 : Int) ≠ 34 by omega) hn
  exact this.trans (tk_end _ [])
theorem takeA_esc (l : List Int) (hB : Bs l) : takeA (⟨#[34]⟩ ++ strOfNums l ++ ⟨#[34]⟩) 0 = match tk [] (l ++ [34]) with
    | some (out, m) => (strOfNums out, (l.length : Int) + 2 - m + 1, true)
    | none => (⟨#[]⟩, 0, false) := by
  have e : (⟨#[34]⟩ : ByteArray) ++ strOfNums l ++ ⟨#[34]⟩ = ⟨#[34]⟩ ++ strOfNums (l ++ [34]) := by
    rw [show (⟨#[34]⟩ : ByteArray) = strOfNums [34] from rfl, str_app, str_app, str_app, List.append_assoc]
  have hs : (strOfNums (l ++ [34])).size = l.length + 1 := by simp [strOfNums, ByteArray.size]
  rw [e, takeA_quote, bytes_str (hB.app bs34), hs]
  cases tk [] (l ++ [34]) with
  | none => rfl
  | some p => simp only; rw [show ((l.length + 1 : Nat) : Int) + 1 = (l.length : Int) + 2 by omega]
theorem tk_bad (a : Int) (h : 56320 ≤ a ∧ a < 57344) {t : List Int} : tk [] (esc4 a ++ t) = none := by
  have hx := hx4_esc a ⟨by omega, by omega⟩ t
  show tk [] (92 :: 117 :: (upD (a / 4096 % 16) :: upD (a / 256 % 16) :: upD (a / 16 % 16) :: upD (a % 16) :: t)) = none
  refine tk_none (by omega) ?_
  simp only [nxtT, if_true, escP, un_u, hx]
  rw [if_neg (fun h => h rfl), if_pos h]
theorem cell_drewN {w : World} {a : Addr} {v : Value} (k : Nat) (h : w.cell? a = some v) : (w.drewN k).cell? a = some v := h
theorem cell_new (w : World) : (w.alloc (.cells #[.string ⟨#[48, 49, 50, 51, 52, 53, 54, 55, 56, 57, 65, 66, 67, 68, 69, 70]⟩] 9)).cell? ⟨w.heap.size, 0, none⟩ = some (.string ⟨#[48, 49, 50, 51, 52, 53, 54, 55, 56, 57, 65, 66, 67, 68, 69, 70]⟩) := by
  rw [cell_of_row _ _ 0 _ _ _ (heap_alloc_new w _)]; rfl
set_option maxRecDepth 100000 in
set_option maxHeartbeats 2000000 in
theorem QuoteRunes_walk (a0 : Int) (w : World) (hT : QT w) (w0 : (Lit.int .i64 a0).wf = true) :
    Calls Tryd.prog 6 #[.int .i64 a0] w fun e w' => e = .returned (.bool true) ∧ Below w.heap.size w w' := by
  have HQ := Aside0.mk hT
  have hb := i64b w0
  clear hT w0
  by_cases h0 : a0 < 0
  · have k1 : (a0 < 0) = True := eq_true h0
    clear h0
    go_enter Tryd.func6, Tryd.ntmps6
    go_wp2_with fail
    refine (alive_calls _ HQ.out).mono ?_
    rintro e w2 ⟨rfl, hb⟩
    have HB2 := Aside0.mk hb
    clear hb
    go_wp2_with fail
    go_ret
    exact ⟨rfl, HB2.out⟩
  have k1 : (a0 < 0) = False := eq_false h0
  by_cases h1 : 1114112 < a0
  · have k2 : (a0 > 1114112) = True := eq_true h1
    have k3 : (1114112 < a0) = True := eq_true h1
    clear h0 h1
    go_enter Tryd.func6, Tryd.ntmps6
    go_wp2_with fail
    refine (alive_calls _ HQ.out).mono ?_
    rintro e w2 ⟨rfl, hb⟩
    have HB2 := Aside0.mk hb
    clear hb
    go_wp2_with fail
    go_ret
    exact ⟨rfl, HB2.out⟩
  have k2 : (a0 > 1114112) = False := eq_false h1
  have k3 : (1114112 < a0) = False := eq_false h1
  have e0 : 0 ≤ a0 := by omega
  have e1 : a0 ≤ 1114112 := by omega
  clear hb h0 h1
  by_cases h16 : a0 < 65536
  · have k4 : (a0 < 65536) = True := eq_true h16
    have HL : Aside0 (a0 < 65536) := ⟨h16⟩
    have k5 : (a0 == 1114112) = false := beq_eq_false_iff_ne.mpr (by omega)
    have htk := takeA_esc (esc4 a0) (esc4_bs a0)
    rw [tk_one a0 ⟨e0, h16⟩] at htk
    obtain ⟨y, hy⟩ : ∃ y, strOfNums (esc4 a0) = y := ⟨_, rfl⟩
    have hys : y.size = 6 := by rw [← hy]; rfl
    rw [hy] at htk
    have HY := Aside0.mk hy
    have hy1 : (1 + y.size > 9223372036854775807) = False := eq_false (by omega)
    have hy2 : (9223372036854775807 < 1 + y.size) = False := eq_false (by omega)
    have hy3 : (1 + y.size + 1 > 9223372036854775807) = False := eq_false (by omega)
    have hy4 : (9223372036854775807 < 1 + y.size + 1) = False := eq_false (by omega)
    have HYS : Aside0 (((⟨#[34]⟩ : ByteArray) ++ y ++ ⟨#[34]⟩).size ≤ 1099511627776) := ⟨by rw [size_append', size_append']; show 1 + y.size + 1 ≤ _; omega⟩
    clear h16 hy hys
    by_cases hs : 55296 ≤ a0 ∧ a0 < 57344
    · rw [if_pos hs] at htk
      have HTA := Aside0.mk htk
      obtain ⟨s1, s2⟩ := hs
      have p1 : (a0 ≥ 55296) = True := eq_true s1
      have p2 : (a0 < 57344) = True := eq_true s2
      clear htk
      go_enter Tryd.func6, Tryd.ntmps6
      go_wp2_with fail
      refine (alive_calls _ HQ.out).mono ?_
      rintro e w2 ⟨rfl, hb⟩
      have HB2 := Aside0.mk hb
      have HQ2 := Aside0.mk (HQ.out.below hb)
      clear hb
      have HC := Aside0.mk (cell_new w2)
      have HBw := Aside0.mk (bel_any w2 (.cells #[.string ⟨#[48, 49, 50, 51, 52, 53, 54, 55, 56, 57, 65, 66, 67, 68, 69, 70]⟩] 9))
      go_wp2_with fail
      refine (esc_calls a0 _ _ ⟨e0, HL.out⟩ HC.out).mono ?_
      rintro e w3 ⟨rfl, k, rfl⟩
      have HB3 := Aside0.mk (HB2.out.trans ((bel_drewN HBw.out k).mono HB2.out.size))
      have HQ3 := Aside0.mk (HQ2.out.below (bel_drewN HBw.out k))
      rw [HY.out]
      go_wp2_with fail
      refine (take_at _ _ _ _ _ _ HQ3.out HYS.out (by omega) HTA.out).mono ?_
      rintro e w5 ⟨rfl, hb⟩
      have HB5 := Aside0.mk (HB3.out.trans (hb.mono HB3.out.size))
      clear hb
      go_wp2_with fail
      go_ret
      exact ⟨rfl, HB5.out⟩
    · rw [if_neg hs] at htk
      have HTA := Aside0.mk htk
      have HV : Aside0 (validR a0) := ⟨by unfold validR; have := HL.out; omega⟩
      have hbs := beq_same (strOfNums (encR a0))
      clear htk
      by_cases h5 : a0 < 55296
      · have p1 : (a0 ≥ 55296) = False := eq_false (by omega)
        have p2 : (55296 ≤ a0) = False := eq_false (by omega)
        clear hs h5
        go_enter Tryd.func6, Tryd.ntmps6
        go_wp2_with fail
        refine (alive_calls _ HQ.out).mono ?_
        rintro e w2 ⟨rfl, hb⟩
        have HB2 := Aside0.mk hb
        have HQ2 := Aside0.mk (HQ.out.below hb)
        clear hb
        have HC := Aside0.mk (cell_new w2)
        have HBw := Aside0.mk (bel_any w2 (.cells #[.string ⟨#[48, 49, 50, 51, 52, 53, 54, 55, 56, 57, 65, 66, 67, 68, 69, 70]⟩] 9))
        go_wp2_with fail
        refine (esc_calls a0 _ _ ⟨e0, HL.out⟩ HC.out).mono ?_
        rintro e w3 ⟨rfl, k, rfl⟩
        have HB3 := Aside0.mk (HB2.out.trans ((bel_drewN HBw.out k).mono HB2.out.size))
        have HQ3 := Aside0.mk (HQ2.out.below (bel_drewN HBw.out k))
        rw [HY.out]
        go_wp2_with fail
        refine (take_at _ _ _ _ _ _ HQ3.out HYS.out (by omega) HTA.out).mono ?_
        rintro e w5 ⟨rfl, hb⟩
        have HB5 := Aside0.mk (HB3.out.trans (hb.mono HB3.out.size))
        clear hb
        go_wp2_with fail
        refine (bytes_calls a0 _ HV.out).mono ?_
        rintro e w6 ⟨rfl, hb⟩
        have HB6 := Aside0.mk (HB5.out.trans (hb.mono HB5.out.size))
        clear hb
        go_wp2_with fail
        go_ret
        exact ⟨rfl, HB6.out⟩
      · have p1 : (a0 ≥ 55296) = True := eq_true (by omega)
        have p2 : (55296 ≤ a0) = True := eq_true (by omega)
        have p3 : (a0 < 57344) = False := eq_false (by omega)
        clear hs h5
        go_enter Tryd.func6, Tryd.ntmps6
        go_wp2_with fail
        refine (alive_calls _ HQ.out).mono ?_
        rintro e w2 ⟨rfl, hb⟩
        have HB2 := Aside0.mk hb
        have HQ2 := Aside0.mk (HQ.out.below hb)
        clear hb
        have HC := Aside0.mk (cell_new w2)
        have HBw := Aside0.mk (bel_any w2 (.cells #[.string ⟨#[48, 49, 50, 51, 52, 53, 54, 55, 56, 57, 65, 66, 67, 68, 69, 70]⟩] 9))
        go_wp2_with fail
        refine (esc_calls a0 _ _ ⟨e0, HL.out⟩ HC.out).mono ?_
        rintro e w3 ⟨rfl, k, rfl⟩
        have HB3 := Aside0.mk (HB2.out.trans ((bel_drewN HBw.out k).mono HB2.out.size))
        have HQ3 := Aside0.mk (HQ2.out.below (bel_drewN HBw.out k))
        rw [HY.out]
        go_wp2_with fail
        refine (take_at _ _ _ _ _ _ HQ3.out HYS.out (by omega) HTA.out).mono ?_
        rintro e w5 ⟨rfl, hb⟩
        have HB5 := Aside0.mk (HB3.out.trans (hb.mono HB3.out.size))
        clear hb
        go_wp2_with fail
        refine (bytes_calls a0 _ HV.out).mono ?_
        rintro e w6 ⟨rfl, hb⟩
        have HB6 := Aside0.mk (HB5.out.trans (hb.mono HB5.out.size))
        clear hb
        go_wp2_with fail
        go_ret
        exact ⟨rfl, HB6.out⟩
  · have k4 : (a0 < 65536) = False := eq_false h16
    have hge : 65536 ≤ a0 := by omega
    have z1 : IntKind.i64.wrap (a0 - 65536) = a0 - 65536 := i64w _ (by omega)
    obtain ⟨x1, hx1⟩ : ∃ x, (a0 - 65536) / 1024 = x := ⟨_, rfl⟩
    obtain ⟨x2, hx2⟩ : ∃ x, (a0 - 65536) % 1024 = x := ⟨_, rfl⟩
    have b1 : 0 ≤ x1 ∧ x1 ≤ 1024 := by omega
    have b2 : 0 ≤ x2 ∧ x2 < 1024 := by omega
    have z2 : Go.bits .and .i64 x1 2047 = x1 := (and_mask x1 11 2047 (by decide) (by decide) b1.1 (by omega)).trans (by show x1 % 2048 = x1; omega)
    have z3 : Go.bits .and .i64 (a0 - 65536) 1023 = x2 := (and_mask (a0 - 65536) 10 1023 (by decide) (by decide) (by omega) (by omega)).trans (by show (a0 - 65536) % 1024 = x2; exact hx2)
    have z4 : IntKind.i64.wrap (55296 + x1) = 55296 + x1 := i64w _ (by omega)
    have z5 : IntKind.i64.wrap (56320 + x2) = 56320 + x2 := i64w _ (by omega)
    have HAB : Aside0 (65536 + (55296 + x1 - 55296) * 1024 + (56320 + x2 - 56320) = a0) := ⟨by omega⟩
    have H1 : Aside0 (0 ≤ 55296 + x1 ∧ 55296 + x1 < 65536) := ⟨by omega⟩
    have H2 : Aside0 (0 ≤ 56320 + x2 ∧ 56320 + x2 < 65536) := ⟨by omega⟩
    obtain ⟨y, hy⟩ : ∃ y, strOfNums (esc4 (55296 + x1)) ++ strOfNums (esc4 (56320 + x2)) = y := ⟨_, rfl⟩
    have hy' : y = strOfNums (esc4 (55296 + x1) ++ esc4 (56320 + x2)) := by rw [← hy, str_app]
    have hys : y.size = 12 := by rw [hy']; rfl
    have htk := takeA_esc (esc4 (55296 + x1) ++ esc4 (56320 + x2)) ((esc4_bs _).app (esc4_bs _))
    rw [← hy'] at htk
    have HY := Aside0.mk hy
    have hy1 : (1 + y.size > 9223372036854775807) = False := eq_false (by omega)
    have hy2 : (9223372036854775807 < 1 + y.size) = False := eq_false (by omega)
    have hy3 : (1 + y.size + 1 > 9223372036854775807) = False := eq_false (by omega)
    have hy4 : (9223372036854775807 < 1 + y.size + 1) = False := eq_false (by omega)
    have HYS : Aside0 (((⟨#[34]⟩ : ByteArray) ++ y ++ ⟨#[34]⟩).size ≤ 1099511627776) := ⟨by rw [size_append', size_append']; show 1 + y.size + 1 ≤ _; omega⟩
    obtain ⟨u1, hu1⟩ : ∃ u, strOfNums (esc4 (55296 + x1)) = u := ⟨_, rfl⟩
    obtain ⟨u2, hu2⟩ : ∃ u, strOfNums (esc4 (56320 + x2)) = u := ⟨_, rfl⟩
    have hus1 : u1.size = 6 := by rw [← hu1]; rfl
    have hus2 : u2.size = 6 := by rw [← hu2]; rfl
    have hu3 : (u1.size + u2.size > 9223372036854775807) = False := eq_false (by omega)
    have hu4 : (9223372036854775807 < u1.size + u2.size) = False := eq_false (by omega)
    rw [hu1, hu2] at HY
    have hY := HY.out
    have HU1 := Aside0.mk hu1
    have HU2 := Aside0.mk hu2
    have p1 : (a0 ≥ 55296) = True := eq_true (by omega)
    have p2 : (55296 ≤ a0) = True := eq_true (by omega)
    have p3 : (a0 < 57344) = False := eq_false (by omega)
    by_cases hlast : a0 = 1114112
    · have hx11 : x1 = 1024 := by omega
      have HTA : Aside0 (takeA (⟨#[34]⟩ ++ y ++ ⟨#[34]⟩) 0 = (⟨#[]⟩, 0, false)) := ⟨by rw [htk, hx11, List.append_assoc, tk_bad (55296 + 1024) (by omega)]⟩
      have k5 : (a0 == 1114112) = true := beq_iff_eq.mpr hlast
      clear htk h16 hge hx2 b1 b2 hy hy' hys hu1 hu2 hus1 hus2 hlast hx11
      go_enter Tryd.func6, Tryd.ntmps6
      go_wp2_with fail
      refine (alive_calls _ HQ.out).mono ?_
      rintro e w2 ⟨rfl, hb⟩
      have HB2 := Aside0.mk hb
      have HQ2 := Aside0.mk (HQ.out.below hb)
      clear hb
      have HC := Aside0.mk (cell_new w2)
      have HBw := Aside0.mk (bel_any w2 (.cells #[.string ⟨#[48, 49, 50, 51, 52, 53, 54, 55, 56, 57, 65, 66, 67, 68, 69, 70]⟩] 9))
      go_wp2_with fail
      refine (esc_calls (55296 + x1) w2.heap.size _ H1.out HC.out).mono ?_
      rintro e w3 ⟨rfl, k, rfl⟩
      rw [HU1.out]
      go_wp2_with fail
      refine (esc_calls (56320 + x2) w2.heap.size _ H2.out (cell_drewN k HC.out)).mono ?_
      rintro e w4 ⟨rfl, k', rfl⟩
      rw [HU2.out]
      rw [World.drewN_drewN]
      have HB3 := Aside0.mk (HB2.out.trans ((bel_drewN HBw.out (k + k')).mono HB2.out.size))
      have HQ3 := Aside0.mk (HQ2.out.below (bel_drewN HBw.out (k + k')))
      go_wp2_with fail
      refine (take_at _ _ _ _ _ _ HQ3.out HYS.out (by omega) HTA.out).mono ?_
      rintro e w5 ⟨rfl, hb⟩
      have HB5 := Aside0.mk (HB3.out.trans (hb.mono HB3.out.size))
      clear hb
      go_wp2_with fail
      go_ret
      exact ⟨rfl, HB5.out⟩
    · have HTA := Aside0.mk htk
      rw [tk_two _ _ (by omega) (by omega), HAB.out] at HTA
      have HV : Aside0 (validR a0) := ⟨by unfold validR; omega⟩
      have hbs := beq_same (strOfNums (encR a0))
      have k5 : (a0 == 1114112) = false := beq_eq_false_iff_ne.mpr hlast
      clear htk h16 hge hx2 b1 b2 hy hy' hys hu1 hu2 hus1 hus2 hlast
      go_enter Tryd.func6, Tryd.ntmps6
      go_wp2_with fail
      refine (alive_calls _ HQ.out).mono ?_
      rintro e w2 ⟨rfl, hb⟩
      have HB2 := Aside0.mk hb
      have HQ2 := Aside0.mk (HQ.out.below hb)
      clear hb
      have HC := Aside0.mk (cell_new w2)
      have HBw := Aside0.mk (bel_any w2 (.cells #[.string ⟨#[48, 49, 50, 51, 52, 53, 54, 55, 56, 57, 65, 66, 67, 68, 69, 70]⟩] 9))
      go_wp2_with fail
      refine (esc_calls (55296 + x1) w2.heap.size _ H1.out HC.out).mono ?_
      rintro e w3 ⟨rfl, k, rfl⟩
      rw [HU1.out]
      go_wp2_with fail
      refine (esc_calls (56320 + x2) w2.heap.size _ H2.out (cell_drewN k HC.out)).mono ?_
      rintro e w4 ⟨rfl, k', rfl⟩
      rw [HU2.out]
      rw [World.drewN_drewN]
      have HB3 := Aside0.mk (HB2.out.trans ((bel_drewN HBw.out (k + k')).mono HB2.out.size))
      have HQ3 := Aside0.mk (HQ2.out.below (bel_drewN HBw.out (k + k')))
      go_wp2_with fail
      refine (take_at _ _ _ _ _ _ HQ3.out HYS.out (by omega) HTA.out).mono ?_
      rintro e w5 ⟨rfl, hb⟩
      have HB5 := Aside0.mk (HB3.out.trans (hb.mono HB3.out.size))
      clear hb
      go_wp2_with fail
      refine (bytes_calls a0 _ HV.out).mono ?_
      rintro e w6 ⟨rfl, hb⟩
      have HB6 := Aside0.mk (HB5.out.trans (hb.mono HB5.out.size))
      clear hb
      go_wp2_with fail
      go_ret
      exact ⟨rfl, HB6.out⟩
end Go.Proofs.YtfpgjkaaadnmcaaDoor.P
