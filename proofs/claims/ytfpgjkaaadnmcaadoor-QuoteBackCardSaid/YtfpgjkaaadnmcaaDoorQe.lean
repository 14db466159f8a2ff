/- quote.four, by its walk: the number of four digits of base 16. -/
import Derived.Test.YtfpgjkaaadnmcaaDoorQd
import Derived.Test.YtfpgjkaaadnmcaaDoorQi
namespace Go.Proofs.YtfpgjkaaadnmcaaDoor.P
set_option linter.unusedVariables false
set_option linter.unusedSimpArgs false
open Go.RowKit Go.Proofs.YtfpgjkaaadnmcaaDoorW.PrintWords Go.Proofs.YtfpgjkaaadnmcaaDoorW.PrintLast Go.Proofs.YtfpgjkaaadnmcaaDoorW.PrintMore
attribute [local go_sem] setCell_drewN
/-- A digit of base 16. -/
def hv (c : Int) : Option Int := if 48 ≤ c ∧ c ≤ 57 then some (c - 48) else if 97 ≤ c ∧ c ≤ 102 then some (c - 87) else if 65 ≤ c ∧ c ≤ 70 then some (c - 55) else none
def fourF : List Int → Int → Option Int
  | [], n => some n
  | c :: t, n => match hv c with
    | none => none
    | some d => fourF t (n * 16 + d)
/-- The number of the first four bytes. -/
def hx4 (l : List Int) : Option Int := if l.length < 4 then none else fourF (l.take 4) 0
theorem hv_b {c d : Int} (h : hv c = some d) : 0 ≤ d ∧ d < 16 ∧ c < 128 := by
  unfold hv at h
  split at h
  · injection h with h; omega
  · split at h
    · injection h with h; omega
    · split at h
      · injection h with h; omega
      · cases h
theorem i32w (x : Int) (h : -2147483648 ≤ x ∧ x ≤ 2147483647) : IntKind.i32.wrap x = x := by
  rw [i32_w]; unfold wrap32; omega
theorem or32 (v : Nat) (h : v < 2147483648) : Go.bits .or .i32 (v : Int) 32 = ((if v / 32 % 2 = 1 then v else v + 32 : Nat) : Int) := by
  have h1 := (bits_nat .i32 31 (by decide) (fun n h0 h1 => i32w n (by omega)) v 32 (by omega) (by omega)).2
  have e32 : ((32 : Nat) : Int) = 32 := rfl
  rw [e32] at h1
  rw [h1]
  congr 1
  have hv : v = 2 ^ 6 * (v / 64) + v % 64 := by omega
  have hb : ∀ b : Fin 64, (b.val ||| 32) = if b.val / 32 % 2 = 1 then b.val else b.val + 32 := by decide
  have hb1 := hb ⟨v % 64, by omega⟩
  have hlt : (v % 64 ||| 32) < 2 ^ 6 := by
    have : ∀ b : Fin 64, (b.val ||| 32) < 64 := by decide
    exact this ⟨v % 64, by omega⟩
  have e : v ||| 32 = 2 ^ 6 * (v / 64) + (v % 64 ||| 32) := by
    rw [Nat.two_pow_add_eq_or_of_lt hlt]
    conv => lhs; rw [hv, Nat.two_pow_add_eq_or_of_lt (show v % 64 < 2 ^ 6 by omega), Nat.or_assoc]
  rw [e, hb1]
  show 2 ^ 6 * (v / 64) + (if v % 64 / 32 % 2 = 1 then v % 64 else v % 64 + 32) = _
  by_cases h5 : v / 32 % 2 = 1
  · rw [if_pos (show v % 64 / 32 % 2 = 1 by omega), if_pos h5]; omega
  · rw [if_neg (show ¬ v % 64 / 32 % 2 = 1 by omega), if_neg h5]; omega
theorem or32_high (v : Int) (h : validR v) (h1 : 128 ≤ v) : validR (Go.bits .or .i32 v 32) ∧ 128 ≤ Go.bits .or .i32 v 32 := by
  unfold validR at h
  obtain ⟨n, rfl⟩ : ∃ n : Nat, v = (n : Int) := ⟨v.toNat, by omega⟩
  rw [or32 n (by omega)]
  unfold validR
  split <;> omega
def dgi (n : Nat) : Int := Lib.indexByte [48, 49, 50, 51, 52, 53, 54, 55, 56, 57, 97, 98, 99, 100, 101, 102] ((Go.bits .or .i32 (n : Int) 32)).toNat.toUInt8
set_option maxRecDepth 100000 in
/-- The place of a rune among the digits, with its fifth bit set. -/
theorem dig_index : ∀ n : Fin 128, hv (n.val : Int) = (if dgi n.val < 0 ∨ ((n.val : Int) < 48) then none else some (dgi n.val)) ∧ 0 ≤ Go.bits .or .i32 (n.val : Int) 32 ∧ Go.bits .or .i32 (n.val : Int) 32 < 128 := by decide
theorem or_digit (n d : Int) (hn : 0 ≤ n ∧ n < 65536) (hd : 0 ≤ d ∧ d < 16) : Go.bits .or .i32 (n * 16) d = n * 16 + d :=
  bits_join .i32 31 (by decide) (fun n h0 h1 => i32w n (by omega)) 4 _ _ (by omega) (by omega) (by omega) (by omega) (by omega) (by omega)
theorem hv_high {c : Int} (h : 128 ≤ c) : hv c = none := by
  unfold hv
  rw [if_neg (by omega), if_neg (by omega), if_neg (by omega)]
theorem rune_none_high {c : Int} {t : List Int} (h : rune (c :: t) = none) : 128 ≤ c := by
  simp only [rune] at h
  by_cases hc : c < 128
  · rw [if_pos hc] at h; cases h
  · omega
theorem rune_high {c v : Int} {t : List Int} {n : Nat} (h : rune (c :: t) = some (v, n)) : (c < 128 ∧ v = c ∧ n = 1) ∨ (128 ≤ c ∧ ¬ v < 128) := by
  by_cases hc : c < 128
  · left
    simp only [rune, if_pos hc] at h
    injection h with h
    injection h with h1 h2
    exact ⟨hc, h1.symm, h2.symm⟩
  · right
    refine ⟨by omega, ?_⟩
    simp only [rune, if_neg hc] at h
    split at h
    · split at h
      · split at h
        · rename_i hh; injection h with h; injection h with h1 h2; omega
        · cases h
      · cases h
    · split at h
      · split at h
        · split at h
          · rename_i hh; injection h with h; injection h with h1 h2; omega
          · cases h
        · cases h
      · split at h
        · split at h
          · split at h
            · rename_i hh; injection h with h; injection h with h1 h2; omega
            · cases h
          · cases h
        · cases h
def FourPost (l : List Int) (w : World) (e : Ending) (w' : World) : Prop := e = .returned (.tuple #[.int .i32 ((hx4 l).getD 0), .bool (hx4 l).isSome]) ∧ Below w.heap.size w w'
def FourRel (s : ByteArray) (B : Nat) (w : World) (v4 : Value) (wr : World) : Prop :=
  ∃ (pos : Nat) (n : Int), pos ≤ 4 ∧ v4 = .int .i32 n ∧ 0 ≤ n ∧ n < 16 ^ pos ∧ fourF (bytesOf s) 0 = fourF ((bytesOf s).drop pos) n ∧ wr.heap[B]? = some (.stringIter s pos) ∧ Below w.heap.size w wr
set_option maxRecDepth 100000 in
set_option maxHeartbeats 1000000 in
theorem four_calls (s : ByteArray) (w : World) (hs : s.size ≤ 140737488351232) : Calls Tryd.prog 23 #[.string s] w (FourPost (bytesOf s) w) := by
  by_cases h4 : s.size < 4
  · have k1 : ((s.size : Int) < 4) = True := eq_true (by omega)
    have e : hx4 (bytesOf s) = none := if_pos (by rw [bytesOf_length]; exact h4)
    unfold FourPost
    rw [e]
    clear e h4
    go_enter Tryd.func23, Tryd.ntmps23
    go_wp2_with fail
    go_ret2
    exact ⟨rfl, Below.refl _ _⟩
  · have k1 : ((s.size : Int) < 4) = False := eq_false (by omega)
    obtain ⟨t, ht⟩ : ∃ t, t = s.extract 0 4 := ⟨_, rfl⟩
    have hbt : bytesOf t = (bytesOf s).take 4 := by rw [ht, bytes_take]
    have htl : t.size = 4 := by rw [← bytesOf_length, hbt, List.length_take, bytesOf_length]; omega
    have e : hx4 (bytesOf s) = fourF (bytesOf t) 0 := by unfold hx4; rw [if_neg (by rw [bytesOf_length]; exact h4), hbt]
    have hk : (4 : Int) ≤ (s.size : Int) := by omega
    unfold FourPost
    rw [e]
    have HT := Aside0.mk ht
    have HTL := Aside0.mk htl
    have HBt := Aside0.mk (bs_bytes t)
    clear ht htl hbt e h4
    go_enter Tryd.func23, Tryd.ntmps23
    go_wp2_with fail
    rw [← HT.out]
    clear HT
    go_loopw [4] (fun v4 wr => FourRel t w.heap.size w v4 wr) (fun _ w' => t.size - w'.iterPos w.heap.size)
    case atStart => exact ⟨0, 0, by omega, rfl, by omega, by omega, rfl, heap_alloc_new w _, (Below.refl _ _).alloc (Nat.le_refl _) _⟩
    case round =>
      obtain ⟨pos, n, hpos, rfl, hn0, hn1, hf, hit, hbel⟩ := hrel
      have HF := Aside0.mk hf
      have HI := Aside0.mk hit
      have HB := Aside0.mk hbel
      have HN0 := Aside0.mk hn0
      have HN1 := Aside0.mk hn1
      clear hf hit hbel hn0 hn1
      by_cases hp : pos < t.size
      · have hnx := fun ty => Lib.run_next_any_at (P := Tryd.prog) wr w.heap.size t pos ty HI.out hp
        have hdr := decode_rune t pos hp
        have HM := Aside0.mk (iterPos_of HI.out)
        have HT4 := HTL.out
        have hne : (bytesOf t).drop pos ≠ [] := fun e => by have := drop_nil e; rw [bytesOf_length] at this; omega
        rcases hl : (bytesOf t).drop pos with _ | ⟨c, tl⟩
        · exact absurd hl hne
        have HDR : Aside0 ((bytesOf t).drop (pos + 1) = tl) := ⟨by rw [← List.drop_drop, hl]; rfl⟩
        have hsz : w.heap.size < wr.heap.size := iter_lt HI.out
        have hszw : w.heap.size ≤ wr.heap.size := HB.out.size
        have hbs : Bs (c :: tl) := by rw [← hl]; exact (bs_bytes t).drop pos
        rw [hl] at hdr HF
        clear hne hl HT4
        have hlow : (rune (c :: tl) = none ∨ ∃ v n', rune (c :: tl) = some (v, n') ∧ 128 ≤ c ∧ validR v ∧ 128 ≤ v) ∨ (0 ≤ c ∧ c < 128 ∧ rune (c :: tl) = some (c, 1)) := by
          rcases hr : rune (c :: tl) with _ | ⟨v, n'⟩
          · exact .inl (.inl rfl)
          · rcases rune_high hr with ⟨h1, rfl, rfl⟩ | ⟨h1, h2⟩
            · exact .inr ⟨hbs.head.1, h1, rfl⟩
            · exact .inl (.inr ⟨v, n', rfl, h1, (rune_some hbs hr).1, by omega⟩)
        clear hbs
        rcases hlow with hh | ⟨hc0, hc1, hr⟩
        · have HFN : Aside0 (fourF (bytesOf t) 0 = none) := ⟨by
            have hc : 128 ≤ c := by
              rcases hh with h | ⟨v, n', _, h, _⟩
              · exact rune_none_high h
              · exact h
            rw [HF.out]; unfold fourF; rw [hv_high hc]⟩
          have hx : ∃ (v R : Int) (n' : Nat), Utf8.decode t pos = (v.toNat, n') ∧ 0 ≤ v ∧ v ≤ 1114111 ∧ Go.bits .or .i32 v 32 = R ∧ validR R ∧ 128 ≤ R := by
            rcases hh with h | ⟨v, n', h, _, h2, h3⟩
            · rw [h] at hdr
              exact ⟨65533, 65533, 1, hdr, by omega, by omega, by decide, by decide, by omega⟩
            · rw [h] at hdr
              obtain ⟨k1, k2⟩ := or32_high v h2 h3
              exact ⟨v, _, n', hdr, h2.1, h2.2.1, rfl, k1, k2⟩
          obtain ⟨v, R, n', hd, hv0, hv1, hR, k1, k2⟩ := hx
          obtain ⟨vn, rfl⟩ : ∃ vn : Nat, v = (vn : Int) := ⟨v.toNat, by omega⟩
          rw [Int.toNat_natCast] at hd
          rw [hd] at hnx
          have HK1 := Aside0.mk k1
          have HK2 := Aside0.mk k2
          clear hd hh hdr HF k1 k2 hv0
          go_wp2_with fail
          refine (index_high R _ HK1.out HK2.out).mono ?_
          rintro e w3 ⟨rfl, hb⟩
          have HB3 := Aside0.mk ((Lib.below_iterAt HB.out (Nat.le_refl _) t (pos + n')).trans (hb.mono (by simp [World.iterAt]; omega)))
          clear hb
          go_wp2_with fail
          go_ret2
          rw [HFN.out]
          exact ⟨rfl, HB3.out⟩
        · rw [hr] at hdr
          obtain ⟨cn, rfl⟩ : ∃ cn : Nat, c = (cn : Int) := ⟨c.toNat, by omega⟩
          change Utf8.decode t pos = ((cn : Int).toNat, 1) at hdr
          rw [Int.toNat_natCast] at hdr
          rw [hdr] at hnx
          obtain ⟨d1, d2, d3⟩ := dig_index ⟨cn, by omega⟩
          simp only at d1 d2 d3
          have HIX : Aside0 (∀ w, Calls Tryd.prog 28 #[.string ⟨#[48, 49, 50, 51, 52, 53, 54, 55, 56, 57, 97, 98, 99, 100, 101, 102]⟩, .int .i32 (Go.bits .or .i32 (cn : Int) 32)] w fun e w' => e = .returned (.int .i64 (dgi cn)) ∧ w' = w) := ⟨fun w => Tryd.strings_IndexRune_ascii _ _ w d2 d3⟩
          have hlt3 : pos ≤ 3 := by have := HTL.out; omega
          have hp16 : (16 : Int) ^ pos ≤ 4096 := by
            have h4 : pos = 0 ∨ pos = 1 ∨ pos = 2 ∨ pos = 3 := by omega
            rcases h4 with rfl | rfl | rfl | rfl <;> decide
          have hn0 := HN0.out
          have hnl : n < 4096 := by have := HN1.out; omega
          generalize hR : Go.bits .or .i32 (cn : Int) 32 = R at HIX d2 d3
          generalize hdg : dgi cn = d at d1 HIX
          have HF2 : Aside0 (fourF (bytesOf t) 0 = match hv (cn : Int) with
            | none => none
            | some d => fourF tl (n * 16 + d)) := ⟨by rw [HF.out]; rfl⟩
          clear hdg d2 d3 hdr hr HF
          by_cases hd0 : d < 0
          · rw [if_pos (.inl hd0)] at d1
            have HFN : Aside0 (fourF (bytesOf t) 0 = none) := ⟨by rw [HF2.out, d1]⟩
            have hd1 : decide (d < 0) = true := decide_eq_true hd0
            clear d1 hd0 HF2
            go_wp2_with fail
            refine (HIX.out _).mono ?_
            rintro e w3 ⟨rfl, rfl⟩
            go_wp2_with fail
            go_ret2
            rw [HFN.out]
            exact ⟨rfl, Lib.below_iterAt HB.out (Nat.le_refl _) t _⟩
          have hd1 : decide (d < 0) = false := decide_eq_false hd0
          by_cases hc48 : (cn : Int) < 48
          · rw [if_pos (.inr hc48)] at d1
            have HFN : Aside0 (fourF (bytesOf t) 0 = none) := ⟨by rw [HF2.out, d1]⟩
            have hd2 : decide ((cn : Int) < 48) = true := decide_eq_true hc48
            clear d1 hd0 HF2 hc48
            go_wp2_with fail
            refine (HIX.out _).mono ?_
            rintro e w3 ⟨rfl, rfl⟩
            go_wp2_with fail
            go_ret2
            rw [HFN.out]
            exact ⟨rfl, Lib.below_iterAt HB.out (Nat.le_refl _) t _⟩
          have hd2 : decide ((cn : Int) < 48) = false := decide_eq_false hc48
          rw [if_neg (fun h => h.elim hd0 hc48)] at d1
          obtain ⟨b1, b2, _⟩ := hv_b d1
          have HFN : Aside0 (fourF (bytesOf t) 0 = fourF ((bytesOf t).drop (pos + 1)) (n * 16 + d)) := ⟨by rw [HF2.out, d1, HDR.out]⟩
          have HNB : Aside0 (n * 16 + d < 16 ^ (pos + 1)) := ⟨by have := HN1.out; rw [Int.pow_succ]; omega⟩
          have q1 : wrap32 (n * 16) = n * 16 := by unfold wrap32; omega
          have q2 : IntKind.i32.wrap (n * 16) = n * 16 := i32w _ (by omega)
          have q3 : IntKind.i32.wrap d = d := i32w _ (by omega)
          have q4 := or_digit n d ⟨hn0, by omega⟩ ⟨b1, b2⟩
          clear d1 hd0 HF2 hc48
          go_wp2_with fail
          refine (HIX.out _).mono ?_
          rintro e w3 ⟨rfl, rfl⟩
          go_wp2_with fail
          have HI5 : Aside0 ((wr.iterAt w.heap.size t (pos + 1)).heap[w.heap.size]? = some (.stringIter t (pos + 1))) := ⟨Lib.iterAt_heap _ _ _ _ _ HI.out⟩
          refine ⟨⟨pos + 1, n * 16 + d, by omega, rfl, by omega, HNB.out, HFN.out, HI5.out, Lib.below_iterAt HB.out (Nat.le_refl _) t _⟩, ?_⟩
          rw [iterPos_of HI5.out, HM.out]; omega
      · have hnx := fun ty => Lib.run_next_end_at (P := Tryd.prog) wr w.heap.size t pos ty HI.out hp
        have HFN : Aside0 (fourF (bytesOf t) 0 = some n) := ⟨by
          rw [HF.out, List.drop_eq_nil_of_le (by rw [bytesOf_length]; omega)]; rfl⟩
        go_wp2_with fail
        go_ret2
        rw [HFN.out]
        exact ⟨rfl, HB.out⟩
end Go.Proofs.YtfpgjkaaadnmcaaDoor.P
