/- The document's Of (layer 3), by its walk. -/
import Derived.Test.YtlopmjolahhpnaaDoorDe
namespace Go.Proofs.YtlopmjolahhpnaaDoor.P
set_option linter.unusedVariables false
set_option linter.unusedSimpArgs false
open Go.RowKit Go.Proofs.YtlopmjolahhpnaaDoorW.PrintWords Go.Proofs.YtlopmjolahhpnaaDoorW.PrintLast Go.Proofs.YtlopmjolahhpnaaDoorW.PrintMore
attribute [local go_sem] setCell_drewN
def iv : Nat → Int := lst8 7640891576956012808 13503953896175478587 4354685564936845355 11912009170470909681 5840696475078001361 11170449401992604703 2270897969802886507 6620516959819538809
/-- The state behind k blocks. -/
def absorb (z : Nat → Int) : Nat → Nat → Int
  | 0 => iv
  | k + 1 => nxt (absorb z k) (fun j => z (128 * k + j))
/-- A state's bytes, the highest first. -/
def ob (s : Nat → Int) (i : Nat) : Int := s (i / 8) / 2 ^ (8 * (7 - i % 8)) % 256
/-- The digest. -/
def dg (z : Nat → Int) (n : Nat) : Nat → Int := ob (absorb (pad z n) (PL n / 128))
/-- n bytes as a string. -/
def sN (n : Nat) (z : Nat → Int) : ByteArray := strOfNums ((List.range n).map z)
theorem getD_range (n : Nat) (z : Nat → Int) (i : Nat) (h : i < n) : ((List.range n).map z).getD i 0 = z i := by
  rw [List.getD_eq_getElem?_getD]; simp [h]
theorem str_cells {w : World} {g o n cap : Nat} {z : Nat → Int} (h : ∀ j, j < n → w.cell? ⟨g, o + j, none⟩ = some (.int .u8 (z j))) : (convert 22 9 (.slice (some ⟨g, o, none⟩) n cap)).run Tryd.prog w = .ok (.string (sN n z)) w :=
  run_convert_bytes_arg w 22 5 Tryd.underlying22 Tryd.underlying5 g o n cap ((List.range n).map z) (by simp) (fun i hi => by rw [getD_range n z i hi]; exact h i hi) 9 Tryd.underlying9
theorem OwnB.str {w : World} {base n : Nat} {v : Value} {z : Nat → Int} (h : OwnB w base v n z) (hn : 0 < n) : (convert 22 9 v).run Tryd.prog w = .ok (.string (sN n z)) w := by
  obtain ⟨g, o, cap, rfl, _, _, _, hc, _⟩ := OwnS.open h hn
  exact str_cells hc
def OF1 (z : Nat → Int) (n pl : Nat) (w : World) (v4 : Value) (gk : Nat) (v6 v3 : Value) (wr : World) : Prop := ∃ k m : Nat, k ≤ pl / 128 ∧ m = 128 * k ∧ v6 = .int .i64 (m : Int) ∧ OwnU wr w.heap.size v3 8 (absorb (pad z n) k) ∧ OwnB wr w.heap.size v4 (pl) (pad z n) ∧ (∀ j, j < 80 → wr.cell? ⟨gk, j, none⟩ = some (.int .u64 (kk j))) ∧ Below w.heap.size w wr
def OF2 (S : Nat → Int) (w : World) (gs os : Nat) (v31 v7 : Value) (wr : World) : Prop := ∃ q : Nat, q ≤ 8 ∧ v31 = .int .i64 (q : Int) ∧ OwnB wr w.heap.size v7 (8 * q) (ob S) ∧ (∀ j, j < 8 → wr.cell? ⟨gs, os + j, none⟩ = some (.int .u64 (S j))) ∧ Below w.heap.size w wr ∧ v7.ownBlock ≠ some gs
def OF3 (S : Nat → Int) (w : World) (gs os q : Nat) (v10 v7 : Value) (wr : World) : Prop := ∃ r : Nat, r ≤ 8 ∧ v10 = .int .i64 ((r : Int) - 1) ∧ OwnB wr w.heap.size v7 (8 * q + (8 - r)) (ob S) ∧ (∀ j, j < 8 → wr.cell? ⟨gs, os + j, none⟩ = some (.int .u64 (S j))) ∧ Below w.heap.size w wr ∧ v7.ownBlock ≠ some gs
theorem iv_row : (#[.int .u64 7640891576956012808, .int .u64 13503953896175478587, .int .u64 4354685564936845355, .int .u64 11912009170470909681, .int .u64 5840696475078001361, .int .u64 11170449401992604703, .int .u64 2270897969802886507, .int .u64 6620516959819538809] : Array Value) = FR .u64 8 iv := rfl
set_option maxRecDepth 100000 in
set_option maxHeartbeats 2000000 in
theorem refof_calls (z : Nat → Int) (a : Option Addr) (n cap : Nat) (w : World) (hI : NumsAt .u8 w a n z) (hn0 : a = none → cap = 0) (hn : n ≤ 140737488351232) (hz : ∀ j, j < n → 0 ≤ z j ∧ z j < 256) :
    Calls Tryd.prog 9 #[.slice a n cap] w fun e w' => e = .returned (.string (sN 64 (dg z n))) ∧ Below w.heap.size w w' := by
  have HN := Aside0.mk hn
  have HPL := Aside0.mk (PL_b n)
  have HPB := Aside0.mk (pad_b z n hz)
  have HS0 := Aside0.mk (OwnS.made (e := 36) (k := .u64) (base := w.heap.size) w 8 iv (Nat.le_refl _) (by unfold maxLen; omega))
  have HB0 := Aside0.mk ((Below.refl w.heap.size w).alloc (Nat.le_refl _) (.cells (FR .u64 8 iv) 36))
  have HI := Aside0.mk (hI.keep (w' := w.alloc (.cells (FR .u64 8 iv) 36)) (fun x hx h0 => by
    rcases hI with ⟨h1, _⟩ | ⟨y, h1, hc⟩
    · rw [h1] at hx; cases hx
    · rw [h1] at hx; cases hx
      have := World.block_lt_of_cell? w _ (hc 0 h0)
      rw [show (x.add 0).block = x.block by unfold Addr.add; split <;> rfl] at this
      exact Below.heap_alloc w _ _ this))
  clear hI
  have HP := Aside0.mk (padded_calls z a n cap (w.alloc (.cells (FR .u64 8 iv) 36)) HI.out hn0 hn)
  clear hn hn0 hz
  obtain ⟨pl, hpl⟩ : ∃ x, PL n = x := ⟨_, rfl⟩
  rw [hpl] at HP HPL
  have HDG : Aside0 (dg z n = ob (absorb (pad z n) (pl / 128))) := ⟨by rw [← hpl]; rfl⟩
  clear hpl
  go_enter Tryd.func9, Tryd.ntmps9
  go_wp2_with fail
  refine (HP.out).mono ?_
  rintro e w1 ⟨v, rfl, hp, hb⟩
  have HB1 := Aside0.mk (HB0.out.trans (hb.mono HB0.out.size))
  have hlt0 := hb.size
  have HS1 := Aside0.mk (HS0.out.below hb (fun b h => (HS0.out.lt b h).2))
  have HA1 := Aside0.mk (OwnS.low hp HB0.out.size)
  clear HP HS0 HB0 hp hb
  go_wp2_with fail
  refine (numbers_calls w1).mono ?_
  rintro e w2 ⟨rfl, rfl⟩
  have HB2 := Aside0.mk (HB1.out.alloc HB1.out.size (.cells (FR .u64 80 kk) 36))
  have HS2 := Aside0.mk (HS1.out.alloc (.cells (FR .u64 80 kk) 36))
  have HA2 := Aside0.mk (HA1.out.alloc (.cells (FR .u64 80 kk) 36))
  have HK2 := Aside0.mk (Row.new w1 .u64 80 kk 36).cell
  have hsz1 := HB1.out.size
  clear HB1 HS1 HA1
  go_wp2_with fail
  generalize w1.heap.size = gk at *
  go_loopw [6, 3] (fun v6 v3 wr => OF1 z n pl w v gk v6 v3 wr) (fun v _ _ => pl - (intOf v).toNat)
  case atStart => exact ⟨0, 0, by omega, rfl, rfl, HS2.out, HA2.out, HK2.out, HB2.out⟩
  case round =>
    clear HB2 HS2 HA2 HK2
    obtain ⟨k, m, hk, hm, rfl, h3, h4, hkk, hb⟩ := hrel
    have hPL := HPL.out
    have hN := HN.out
    have HB := Aside0.mk hb
    have HK := Aside0.mk hkk
    have H3 := Aside0.mk h3
    have H4 := Aside0.mk h4
    have hsz := hb.size
    obtain ⟨g4, o4, c4, rfl, hc4, hg4, hl4, hcl4, _, _⟩ := h4.open (by omega)
    obtain ⟨g3, o3, c3, rfl, hc3, hg3, hl3, hcl3, _, _⟩ := h3.open (by omega)
    have hmx : c4 ≤ 9223372036854775807 := by
      rcases h4 with ⟨h, _⟩ | ⟨_, _, _, _, h, _, _, _, hm, _⟩
      · cases h
      · cases h; unfold maxLen at hm; omega
    have HC4 := Aside0.mk hcl4
    have HC3 := Aside0.mk hcl3
    clear hb hkk h3 h4 hcl4 hcl3
    rcases Nat.lt_or_ge k (pl / 128) with hlt | hge
    · have HNX := Aside0.mk (next_calls (fun j => pad z n (128 * k + j)) (absorb (pad z n) k) g3 o3 8 c3 g4 (o4 + m) (c4 - m) gk wr (by omega) HC3.out (fun j hj => by
        rw [show o4 + m + j = o4 + (128 * k + j) by omega]; exact HC4.out (128 * k + j) (by omega)) HK.out (fun j _ => HPB.out _))
      have hm2 : m + 128 ≤ pl := by omega
      have HM := Aside0.mk hm
      have q1 : ((m : Int) < (pl : Int)) = True := eq_true (by omega)
      have q2 : wrap64 ((m : Int) + 128) = (m : Int) + 128 := w64 _ (by omega)
      have q3 : IntKind.i64.wrap ((m : Int) + 128) = (m : Int) + 128 := i64w _ (by omega)
      have q4 : ((m : Int) + 128).toNat = m + 128 := by omega
      have q5 : (m : Int) + 128 ≤ (c4 : Int) := by omega
      have q6 : m + 128 - m = 128 := by omega
      clear hm hPL hN hk
      generalize pl = pl2 at *
      go_wp2_with fail
      refine (HNX.out).mono ?_
      rintro e w3 ⟨v3, rfl, ho3, hb3⟩
      have HB3 := Aside0.mk (HB.out.trans (hb3.mono hsz))
      have HO3 := Aside0.mk (OwnS.low ho3 hsz)
      have HO4 := Aside0.mk (H4.out.below hb3 (fun b h => (H4.out.lt b h).2))
      have HK3 : Aside0 (∀ j, j < 80 → w3.cell? ⟨gk, j, none⟩ = some (.int .u64 (kk j))) := ⟨fun j hj => (World.cell?_of_block (hb3.block gk (World.block_lt_of_cell? _ _ (HK.out 0 (by omega))))).trans (HK.out j hj)⟩
      clear ho3 hb3 HNX
      go_wp2_with fail
      refine ⟨⟨k + 1, m + 128, by have := HM.out; omega, by have := HM.out; omega, by simp, HO3.out, HO4.out, HK3.out, HB3.out⟩, ?_⟩
      simp only [intOf]
      omega
    · obtain rfl : k = pl / 128 := by omega
      have q1 : ((m : Int) < (pl : Int)) = False := eq_false (by omega)
      have HGL := Aside0.mk hl3
      generalize absorb (pad z n) (pl / 128) = S at *
      clear hk hge hPL hN hm
      go_wp2_with fail
      go_loopw [31, 7] (fun v31 v7 wr => OF2 S w g3 o3 v31 v7 wr) (fun v _ _ => 8 - (intOf v).toNat)
      case atStart => exact ⟨0, by omega, rfl, OwnS.nil _ _ _, HC3.out, HB.out, by simp [Value.ownBlock]⟩
      case round =>
        clear HB HK H3 H4 HC4 HC3
        obtain ⟨q, hq, rfl, ho7, hc, hb, hne⟩ := hrel
        have HO7 := Aside0.mk ho7
        have HC := Aside0.mk hc
        have HB := Aside0.mk hb
        have HNE := Aside0.mk hne
        have hszq := hb.size
        clear ho7 hb hne
        rcases Nat.lt_or_ge q 8 with h8 | h8
        · have hlt : ((q : Int) < 8) = True := eq_true (by omega)
          have k0 := hc q h8
          clear hc
          go_wp2_with fail
          go_loopw [10, 7] (fun v10 v7 wr => OF3 S w g3 o3 q v10 v7 wr) (fun v _ _ => ((intOf v) + 1).toNat)
          case atStart => exact ⟨8, by omega, rfl, HO7.out, HC.out, HB.out, HNE.out⟩
          case round =>
            clear HO7 HC HB HNE k0
            obtain ⟨r, hr, rfl, ho7, hc, hb, hne⟩ := hrel
            have HO7 := Aside0.mk ho7
            have HC := Aside0.mk hc
            have HB := Aside0.mk hb
            have HNE := Aside0.mk hne
            have hszr := hb.size
            clear ho7 hb hne
            rcases Nat.eq_zero_or_pos r with rfl | hr0
            · rw [show (((0 : Nat) : Int) - 1) = -1 from rfl]
              clear hc
              go_wp2_with fail
              exact ⟨⟨q + 1, by omega, rfl, HO7.out, HC.out, HB.out, HNE.out⟩, meas_up 8 q h8⟩
            · obtain ⟨t, rfl⟩ : ∃ t, r = t + 1 := ⟨r - 1, by omega⟩
              rw [show (((t + 1 : Nat) : Int) - 1) = (t : Int) by omega]
              have hge : ((t : Int) ≥ 0) = True := eq_true (by omega)
              have q1 : wrap64 (8 * (t : Int)) = 8 * (t : Int) := w64 _ (by omega)
              have q2 : IntKind.i64.wrap (8 * (t : Int)) = 8 * (t : Int) := i64w _ (by omega)
              have q3 : IntKind.u64.wrap (8 * (t : Int)) = 8 * (t : Int) := u64w _ (by omega) (by omega)
              have q4 : (8 * (t : Int)).toNat = 8 * t := by omega
              have q5 : 0 ≤ 8 * (t : Int) := by omega
              have q6 : 8 * (t : Int) ≤ 64 := by omega
              have HX : Aside0 (S q / 2 ^ (8 * t) % 256 = ob S (8 * q + (8 - (t + 1)))) := ⟨by
                unfold ob
                rw [show (8 * q + (8 - (t + 1))) / 8 = q by omega, show 7 - (8 * q + (8 - (t + 1))) % 8 = t by omega]⟩
              have HOa := Aside0.mk (HO7.out.alloc (.cells #[.int .u8 (S q / 2 ^ (8 * t) % 256)] 5))
              have HBa := Aside0.mk (HB.out.alloc hszr (.cells #[.int .u8 (S q / 2 ^ (8 * t) % 256)] 5))
              have hsza := HBa.out.size
              have HLT := Aside0.mk (World.block_lt_of_cell? _ _ (hc 0 (by omega)))
              clear hc
              go_wp2_with (refine step_append HOa.out (NumsAt.one .u8 _ _ _) Tryd.underlying22 info8p rfl rfl rfl rfl rfl (fun e => by cases e) (by unfold maxLen; omega) (by omega) (by simpa using hsza) ?_; intro v5 w5 ho5 hg5 hat _; have HG5 := Aside0.mk hg5; have HAT := Aside0.mk hat; have HO5 := Aside0.mk ho5; clear ho5 hg5 hat)
              have hg5 := HG5.out
              have HB5 := Aside0.mk (grown_bel HBa.out hg5 hsza (fun b hb => (HOa.out.lt b hb).1))
              have HC5 : Aside0 (∀ j, j < 8 → w5.cell? ⟨g3, o3 + j, none⟩ = some (.int .u64 (S j))) := ⟨fun j hj => (World.cell?_of_block (a := ⟨g3, o3 + j, none⟩) (hg5.block g3 (by have := HLT.out; simp at this ⊢; omega) (fun e => HNE.out e.symm))).trans ((World.cell?_of_block (a := ⟨g3, o3 + j, none⟩) (Below.heap_alloc wr _ g3 HLT.out)).trans (HC.out j hj))⟩
              refine ⟨⟨t, by omega, rfl, ?_, HC5.out, HB5.out, ?_⟩, by simp only [intOf]; omega⟩
              · have h := HO5.out
                rw [show 8 * q + (8 - (t + 1)) + 1 = 8 * q + (8 - t) by omega] at h
                exact h.congr (fun j hj => by
                  by_cases h1 : j < 8 * q + (8 - (t + 1))
                  · rw [if_pos h1]
                  · rw [if_neg h1, HX.out, show j = 8 * q + (8 - (t + 1)) by omega])
              · rcases HAT.out with h | h
                · rw [h]; exact HNE.out
                · rw [h]; intro e; have h9 : g3 < wr.heap.size := HLT.out; simp at e; omega
        · obtain rfl : q = 8 := by omega
          have hcv := OwnB.str HO7.out (by omega)
          rw [show 8 * 8 = 64 from rfl] at hcv
          clear hc
          go_wp2_with fail
          go_ret
          rw [HDG.out]
          exact ⟨rfl, HB.out⟩
end Go.Proofs.YtlopmjolahhpnaaDoor.P
