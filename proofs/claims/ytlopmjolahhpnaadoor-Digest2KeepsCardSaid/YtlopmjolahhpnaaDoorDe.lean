/- What stands behind the bytes; the document's Padded (layer 3), by its walk. -/
import Derived.Test.YtlopmjolahhpnaaDoorDd
namespace Go.Proofs.YtlopmjolahhpnaaDoor.P
set_option linter.unusedVariables false
set_option linter.unusedSimpArgs false
open Go.RowKit Go.Proofs.YtlopmjolahhpnaaDoorW.PrintWords Go.Proofs.YtlopmjolahhpnaaDoorW.PrintLast Go.Proofs.YtlopmjolahhpnaaDoorW.PrintMore
attribute [local go_sem] setCell_drewN
/-- How long n bytes are with what stands behind them. -/
def PL (n : Nat) : Nat := 128 * ((n + 144) / 128)
/-- The bytes of the number of bits, the lowest first. -/
def lb (n i : Nat) : Int := ((8 * n / 256 ^ i % 256 : Nat) : Int)
def pad (z : Nat → Int) (n j : Nat) : Int := if j < n then z j else if j = n then 128 else if j < PL n - 16 then 0 else lb n (PL n - 1 - j)
theorem PL_b (n : Nat) : n + 17 ≤ PL n ∧ PL n ≤ n + 144 ∧ PL n % 128 = 0 := by unfold PL; omega
theorem PL_next (n L : Nat) (h1 : n + 1 ≤ L) (h2 : L ≤ PL n - 16) : (L % 128 = 112 ↔ L = PL n - 16) := by unfold PL at *; omega
theorem pad_b (z : Nat → Int) (n : Nat) (hz : ∀ j, j < n → 0 ≤ z j ∧ z j < 256) (j : Nat) : 0 ≤ pad z n j ∧ pad z n j < 256 := by
  unfold pad lb
  split
  · exact hz j (by assumption)
  · split
    · omega
    · split <;> omega
theorem lb_zero (n : Nat) : lb n 0 = ((n % 32 * 8 : Nat) : Int) := by unfold lb; rw [Nat.pow_zero]; omega
theorem lb_succ (n i : Nat) : lb n (i + 1) = ((n / 32 / 256 ^ i % 256 : Nat) : Int) := by
  unfold lb
  have e : 8 * n / 256 ^ (i + 1) = n / 32 / 256 ^ i := by
    rw [Nat.pow_succ, Nat.mul_comm (256 ^ i) 256, ← Nat.div_div_eq_div_mul, show 8 * n / 256 = n / 32 by omega]
  rw [e]
/-- What is left of the length behind i bytes of it. -/
def nn (n : Nat) : Nat → Nat
  | 0 => n
  | i + 1 => n / 32 / 256 ^ i
theorem nn_succ (n i : Nat) : nn n (i + 2) = nn n (i + 1) / 256 := by
  show n / 32 / 256 ^ (i + 1) = n / 32 / 256 ^ i / 256
  rw [Nat.pow_succ, ← Nat.div_div_eq_div_mul]
theorem nn_le (n : Nat) : ∀ i, nn n i ≤ n
  | 0 => Nat.le_refl _
  | i + 1 => Nat.le_trans (Nat.div_le_self _ _) (Nat.div_le_self _ _)
def slen : Value → Nat
  | .slice _ n _ => n
  | _ => 0
def PR1 (z : Nat → Int) (n : Nat) (w : World) (v3 : Value) (wr : World) : Prop := ∃ L : Nat, n + 1 ≤ L ∧ L ≤ PL n - 16 ∧ OwnB wr w.heap.size v3 L (pad z n) ∧ Below w.heap.size w wr
def PR2 (z : Nat → Int) (n : Nat) (w : World) (v3 v4 v5 v6 : Value) (wr : World) : Prop := ∃ i : Nat, i ≤ 16 ∧ v6 = .int .i64 (i : Int) ∧ v4 = .int .i64 (nn n i : Int) ∧ OwnB wr w.heap.size v5 i (fun j => lb n (i - 1 - j)) ∧ OwnB wr w.heap.size v3 (PL n - 16) (pad z n) ∧ Below w.heap.size w wr
theorem OwnS.form {e : TypeId} {k : IntKind} {w : World} {base n : Nat} {v : Value} {z : Nat → Int} (h : OwnS e k w base v n z) : ∃ a c, v = .slice a n c := by
  rcases h with ⟨rfl, rfl⟩ | ⟨g, o, cap, cur, rfl, _⟩
  · exact ⟨_, _, rfl⟩
  · exact ⟨_, _, rfl⟩
set_option maxRecDepth 100000 in
set_option maxHeartbeats 2000000 in
theorem padded_calls (z : Nat → Int) (a : Option Addr) (n cap : Nat) (w : World) (hI : NumsAt .u8 w a n z) (hn0 : a = none → cap = 0) (hn : n ≤ 140737488351232) :
    Calls Tryd.prog 13 #[.slice a n cap] w fun e w' => ∃ v, e = .returned v ∧ OwnB w' w.heap.size v (PL n) (pad z n) ∧ Below w.heap.size w w' := by
  have HI := Aside0.mk hI
  have HN0 := Aside0.mk hn0
  have HN := Aside0.mk hn
  have HPL := Aside0.mk (PL_b n)
  clear hI hn0 hn
  have HE0 : Aside0 (OwnB (w.alloc (.cells #[] 5)) w.heap.size (.slice (some ⟨w.heap.size, 0, none⟩) 0 0) 0 z) := ⟨OwnS.made w 0 z (Nat.le_refl _) (by unfold maxLen; omega)⟩
  have HI1 := Aside0.mk (HI.out.keep (w' := w.alloc (.cells #[] 5)) (fun x hx h0 => by
    rcases HI.out with ⟨h1, _⟩ | ⟨y, h1, hc⟩
    · rw [h1] at hx; cases hx
    · rw [h1] at hx; cases hx
      have := World.block_lt_of_cell? w _ (hc 0 h0)
      rw [show (x.add 0).block = x.block by unfold Addr.add; split <;> rfl] at this
      exact Below.heap_alloc w _ _ this))
  go_enter Tryd.func13, Tryd.ntmps13
  have hN := HN.out
  have hPL := HPL.out
  go_wp2_with (first | (refine step_append HE0.out HI1.out Tryd.underlying22 info8p rfl rfl rfl rfl rfl HN0.out (by unfold maxLen; have := HN.out; omega) (by have := HN.out; omega) (by simp) ?_; intro v9 w9 ho9 hg9 _ _; have HB9 := Aside0.mk (grown_bel ((Below.refl w.heap.size w).alloc (Nat.le_refl _) _) hg9 (by simp) (fun b hb => (HE0.out.lt b hb).1)); have HB9a := Aside0.mk (HB9.out.alloc HB9.out.size (.cells #[.int .u8 128] 5)); have HO9a := Aside0.mk (OwnS.alloc ho9 (.cells #[.int .u8 128] 5)); clear ho9 hg9) | (refine step_append HO9a.out (NumsAt.one .u8 _ _ _) Tryd.underlying22 info8p rfl rfl rfl rfl rfl (fun e => by cases e) (by unfold maxLen; omega) (by omega) (by have := HB9a.out.size; simpa using this) ?_; intro v11 w11 ho11 hg11 _ _; have HB11 := Aside0.mk (grown_bel HB9a.out hg11 HB9a.out.size (fun b hb => (HO9a.out.lt b hb).1)); have HO11 := Aside0.mk ho11; clear ho11 hg11))
  have HO12 : Aside0 (OwnB w11 w.heap.size v11 (n + 1) (pad z n)) := ⟨by
    have h := HO11.out
    rw [Nat.zero_add] at h
    exact h.congr (fun j hj => by
      unfold pad
      by_cases h1 : j < n
      · rw [if_pos h1, if_pos h1, if_neg (by omega)]; rfl
      · rw [if_neg h1, if_neg h1, if_pos (by omega)])⟩
  go_loopw [3] (fun v3 wr => PR1 z n w v3 wr) (fun v _ => PL n - slen v)
  case atStart => exact ⟨n + 1, by omega, by omega, HO12.out, HB11.out⟩
  case round =>
    clear HB9a HO9a HB11 HO11 HO12 HE0 HI1
    obtain ⟨L, hL1, hL2, hown, hb⟩ := hrel
    have HOW := Aside0.mk hown
    have HB := Aside0.mk hb
    obtain ⟨x, c, rfl⟩ := hown.form
    have hsz := hb.size
    have hnx := PL_next n L hL1 hL2
    have HNX := Aside0.mk hnx
    clear hown hb
    by_cases hq : L % 128 = 112
    · have hLe := hnx.1 hq
      subst hLe
      have hne : ((((PL n - 16 : Nat) : Int)) % 128 != 112) = false := by simp; omega
      have hne2 : ((((PL n - 16 : Nat) : Int)) % 128 = 112) = True := eq_true (by omega)
      clear hnx hL1 hL2 hq
      go_wp2_with fail
      go_loopw [4, 5, 6] (fun v4 v5 v6 wr => PR2 z n w (.slice x (PL n - 16) c) v4 v5 v6 wr) (fun _ _ v _ => 16 - (intOf v).toNat)
      case atStart => exact ⟨0, by omega, rfl, rfl, OwnS.nil _ _ _, HOW.out, HB.out⟩
      case round =>
        clear HOW HB
        obtain ⟨i, hi, rfl, rfl, h5, h3, hb⟩ := hrel
        have HO5 := Aside0.mk h5
        have HO3 := Aside0.mk h3
        have HB := Aside0.mk hb
        have hsz2 := hb.size
        obtain ⟨x5, c5, rfl⟩ := h5.form
        clear h5 h3 hb
        rcases Nat.lt_or_ge i 16 with h16 | h16
        · have hlt : ((i : Int) < 16) = True := eq_true (by omega)
          rcases Nat.eq_zero_or_pos i with rfl | hi0
          · rw [show ((0 : Nat) : Int) = 0 from rfl, show nn n 0 = n from rfl]
            have HLB := Aside0.mk (lb_zero n)
            have hw1 : wrap64 ((n : Int) % 32 * 8) = (n : Int) % 32 * 8 := w64 _ (by omega)
            have hw2 : IntKind.i64.wrap ((n : Int) % 32 * 8) = (n : Int) % 32 * 8 := i64w _ (by omega)
            have hw3 : IntKind.u8.wrap ((n : Int) % 32 * 8) = lb n 0 := by rw [lb_zero, u8w]; omega
            have HD : Aside0 ((n : Int) / 32 = ((nn n 1 : Nat) : Int)) := ⟨by show _ = ((n / 32 / 256 ^ 0 : Nat) : Int); rw [Nat.pow_zero]; omega⟩
            have HM := Aside0.mk (OwnS.made (e := 5) (k := .u8) (base := w.heap.size) wr 1 (fun _ => lb n 0) hsz2 (by unfold maxLen; omega))
            have HT := (HO5.out.alloc (.cells #[.int .u8 (lb n 0)] 5)).numsAt
            obtain ⟨a', c', e', hnum, hnn⟩ := HT
            cases e'
            have HNUM := Aside0.mk hnum
            have HNN := Aside0.mk hnn
            have HBa := Aside0.mk (HB.out.alloc hsz2 (.cells #[.int .u8 (lb n 0)] 5))
            have hsza := HBa.out.size
            have HO3a := Aside0.mk (HO3.out.alloc (.cells #[.int .u8 (lb n 0)] 5))
            have HLT := Aside0.mk (HO3.out.lt)
            clear hnum hnn
            go_wp2_with (refine step_append HM.out HNUM.out Tryd.underlying22 info8p rfl rfl rfl rfl rfl HNN.out (by unfold maxLen; omega) (by omega) (by simpa using hsza) ?_; intro v5 w5 ho5 hg5 _ _; have HB5 := Aside0.mk (grown_bel HBa.out hg5 hsza (fun b hb => (HM.out.lt b hb).1)); have HO35 := Aside0.mk (HO3a.out.keep (fun b hb => hg5.block b (HO3a.out.lt b hb).2 (fun e => by have := (HLT.out b hb).2; simp only [Value.ownBlock, Option.some.injEq] at e; omega))); have HO55 := Aside0.mk ho5; clear ho5 hg5)
            refine ⟨⟨1, by omega, rfl, by rw [← HD.out], HO55.out.congr (fun j hj => ?_), HO35.out, HB5.out⟩, by simp only [intOf]; omega⟩
            have : j = 0 := by omega
            subst this; rfl
          · obtain ⟨k, hk⟩ : ∃ k, i = k + 1 := ⟨i - 1, by omega⟩
            have hne0 : ((i : Int) = 0) = False := eq_false (by omega)
            have hne1 : ((i : Int) == 0) = false := by simp; omega
            have HNI : Aside0 (((nn n i : Nat) : Int) / 256 = ((nn n (i + 1) : Nat) : Int)) := ⟨by rw [hk, nn_succ]; omega⟩
            have HLB : Aside0 (lb n i = ((nn n i % 256 : Nat) : Int)) := ⟨by rw [hk, lb_succ]; rfl⟩
            have hmn : nn n i ≤ n := nn_le n i
            generalize hm : nn n i = m at *
            have hw3 : IntKind.u8.wrap ((m : Int) % 256) = lb n i := by rw [HLB.out, u8w]; omega
            clear hk hm
            have HM := Aside0.mk (OwnS.made (e := 5) (k := .u8) (base := w.heap.size) wr 1 (fun _ => lb n i) hsz2 (by unfold maxLen; omega))
            have HT := (HO5.out.alloc (.cells #[.int .u8 (lb n i)] 5)).numsAt
            obtain ⟨a', c', e', hnum, hnn⟩ := HT
            cases e'
            have HNUM := Aside0.mk hnum
            have HNN := Aside0.mk hnn
            have HBa := Aside0.mk (HB.out.alloc hsz2 (.cells #[.int .u8 (lb n i)] 5))
            have hsza := HBa.out.size
            have HO3a := Aside0.mk (HO3.out.alloc (.cells #[.int .u8 (lb n i)] 5))
            have HLT := Aside0.mk (HO3.out.lt)
            clear hnum hnn
            go_wp2_with (refine step_append HM.out HNUM.out Tryd.underlying22 info8p rfl rfl rfl rfl rfl HNN.out (by unfold maxLen; omega) (by omega) (by simpa using hsza) ?_; intro v5 w5 ho5 hg5 _ _; have HB5 := Aside0.mk (grown_bel HBa.out hg5 hsza (fun b hb => (HM.out.lt b hb).1)); have HO35 := Aside0.mk (HO3a.out.keep (fun b hb => hg5.block b (HO3a.out.lt b hb).2 (fun e => by have := (HLT.out b hb).2; simp only [Value.ownBlock, Option.some.injEq] at e; omega))); have HO55 := Aside0.mk ho5; clear ho5 hg5)
            refine ⟨⟨i + 1, by omega, rfl, by rw [← HNI.out], (show 1 + i = i + 1 by omega) ▸ HO55.out.congr (fun j hj => ?_), HO35.out, HB5.out⟩, meas_up 16 i h16⟩
            by_cases hj0 : j < 1
            · rw [if_pos hj0, show 1 + i - 1 - j = i by omega]
            · rw [if_neg hj0, show i - 1 - (j - 1) = 1 + i - 1 - j by omega]
        · obtain rfl : i = 16 := by omega
          rw [show ((16 : Nat) : Int) = 16 from rfl]
          have HT := HO5.out.numsAt
          obtain ⟨a', c', e', hnum, hnn⟩ := HT
          cases e'
          have HNUM := Aside0.mk hnum
          have HNN := Aside0.mk hnn
          clear hnum hnn
          go_wp2_with (refine step_append HO3.out HNUM.out Tryd.underlying22 info8p rfl rfl rfl rfl rfl HNN.out (by unfold maxLen; omega) (by omega) hsz2 ?_; intro v46 w46 ho hg _ _; have HB6 := Aside0.mk (grown_bel HB.out hg hsz2 (fun b hb => (HO3.out.lt b hb).1)); have HO6 := Aside0.mk ho; clear ho hg)
          go_ret
          refine ⟨v46, rfl, ?_, HB6.out⟩
          have h := HO6.out
          rw [show PL n - 16 + 16 = PL n by omega] at h
          exact h.congr (fun j hj => by
            by_cases h1 : j < PL n - 16
            · rw [if_pos h1]
            · rw [if_neg h1]
              unfold pad
              rw [if_neg (by omega), if_neg (by omega), if_neg h1, show 16 - 1 - (j - (PL n - 16)) = PL n - 1 - j by omega])
    · have hne : ((L : Int) % 128 != 112) = true := by simp; omega
      have hne2 : ((L : Int) % 128 = 112) = False := eq_false (by omega)
      have hLl : L < PL n - 16 := by have := hnx; omega
      have HOa := Aside0.mk (HOW.out.alloc (.cells #[.int .u8 0] 5))
      have HBa := Aside0.mk (HB.out.alloc hsz (.cells #[.int .u8 0] 5))
      have hsza := HBa.out.size
      clear hnx
      go_wp2_with (refine step_append HOa.out (NumsAt.one .u8 _ _ _) Tryd.underlying22 info8p rfl rfl rfl rfl rfl (fun e => by cases e) (by unfold maxLen; omega) (by omega) (by simpa using hsza) ?_; intro v5 w5 ho5 hg5 _ _; have HB5 := Aside0.mk (grown_bel HBa.out hg5 hsza (fun b hb => (HOa.out.lt b hb).1)); obtain ⟨x5, c5, rfl⟩ := ho5.form; have HO5 := Aside0.mk ho5; clear ho5 hg5)
      refine ⟨⟨L + 1, by omega, by omega, HO5.out.congr (fun j hj => ?_), HB5.out⟩, ?_⟩
      · by_cases h1 : j < L
        · rw [if_pos h1]
        · rw [if_neg h1]
          unfold pad
          rw [if_neg (by omega), if_neg (by omega), if_pos (by omega)]
      · show PL n - (L + 1) < PL n - L
        omega
end Go.Proofs.YtlopmjolahhpnaaDoor.P
