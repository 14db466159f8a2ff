/- The law Digest2Pieces, by its walk; lists of bytes that come in. -/
import Derived.Test.YtlopmjolahhpnaaDoorDk
import Derived.Deep.Matrix
import Derived.SizedLaws
import Derived.Test.YtlopmjolahhpnaaDoorWSized
namespace Go.Proofs.YtlopmjolahhpnaaDoor.P
set_option linter.unusedVariables false
set_option linter.unusedSimpArgs false
open Go.RowKit Go.Proofs.YtlopmjolahhpnaaDoorW.PrintWords Go.Proofs.YtlopmjolahhpnaaDoorW.PrintLast Go.Proofs.YtlopmjolahhpnaaDoorW.PrintMore Go.Deep
attribute [local go_sem] setCell_drewN
/-- A row's argument of lists of bytes. -/
def IsRowsB (w : World) (a : Option Addr) (len cap : Nat) (A : Nat → Option Addr) (L C : Nat → Nat) (Z : Nat → Nat → Int) : Prop :=
  (a = none ∧ len = 0 ∧ cap = 0) ∨ ∃ x, a = some x ∧ len ≤ cap ∧ cap ≤ maxLen ∧ ∀ r, r < cap → w.cell? (x.add r) = some (.slice (A r) (L r) (C r)) ∧ L r ≤ C r ∧ C r ≤ 140737488351232 ∧ (A r = none → C r = 0) ∧ NumsAt .u8 w (A r) (L r) (Z r) ∧ ∀ j, j < L r → 0 ≤ Z r j ∧ Z r j < 256
theorem weightsAll_mem {H : Type} {P : Program} {e : TypeId} {ds : List (DataW H)} {d : DataW H} {n : Nat} (hd : d ∈ ds) (hn : n ∈ d.weights P e) : n ∈ DataW.weightsAll P e ds := by
  induction ds with
  | nil => cases hd
  | cons x ds ih =>
    rw [DataW.weightsAll, List.mem_append]
    rcases List.mem_cons.1 hd with rfl | h
    · exact .inl hn
    · exact .inr (ih h)
theorem open_rowsB {H : Type} {enc : TypeId × Value → H} {P : Program} {W : World} {base : Nat} {held : Bool} {t e q : TypeId} {a : Option Addr} {len cap : Nat} {d : DataW H} {ps : List MemPlace} {ts : List TypeId} {ds : List (DataW H)} {j : Nat}
    (hsz : (DataW.weightsEach P ts ds).all (· ≤ reachBytes) = true) (htj : ts[j]? = some t) (hdj : ds[j]? = some d) (ht : P.underlying t = some (.slice e)) (he : P.underlying e = some (.slice q)) (hq : P.underlying q = some (.int .u8))
    (ce : P.cellsOf e = 1) (cq : P.cellsOf q = 1) (hB : P.bytesOf q = 1) (h : DataW.Trod enc P W base (fun _ => true) held t (.slice a len cap) d ps) : ∃ A L C Z, IsRowsB W a len cap A L C Z := by
  obtain ⟨fuel, hf⟩ := h
  rcases open_int_rows ht he hq ce cq hf with ⟨hcs, _⟩ | ⟨x, l, c, A, L, C, Z, hcs, _, hl, hm, hx, hrows⟩
  · simp [Value.cells] at hcs
    obtain ⟨rfl, rfl, rfl⟩ := hcs
    exact ⟨fun _ => none, fun _ => 0, fun _ => 0, fun _ _ => 0, .inl ⟨rfl, rfl, rfl⟩⟩
  · simp [Value.cells] at hcs
    obtain ⟨rfl, rfl, rfl⟩ := hcs
    obtain ⟨hx, _⟩ := Prod.mk.inj hx
    refine ⟨A, L, C, fun r j => (Z r).getD j 0, .inr ⟨x, rfl, hl, hm, fun r hr => ?_⟩⟩
    obtain ⟨h1, h2, h3, h4, h5, h6, h7⟩ := hrows r hr
    have hlen : C r ≤ 140737488351232 := by
      cases hA : A r with
      | none => rw [h6 hA]; omega
      | some a' =>
        have hmem : intRow (H := H) .u8 (A r) (L r) (Z r) ∈ ((List.range len).map fun r => intRow (H := H) .u8 (A r) (L r) (Z r)) ++ ((List.range (cap - len)).map fun j => intRow (H := H) .u8 (A (len + j)) (L (len + j)) (Z (len + j))) := by
          by_cases hrl : r < len
          · exact List.mem_append_left _ (List.mem_map.2 ⟨r, List.mem_range.2 hrl, rfl⟩)
          · exact List.mem_append_right _ (List.mem_map.2 ⟨r - len, List.mem_range.2 (by omega), by rw [show len + (r - len) = r by omega]⟩)
        have hw : (C r) * 1 ∈ (intRow (H := H) .u8 (A r) (L r) (Z r)).weights P e := by
          rw [hA]
          show _ ∈ (DataW.slice _ _).weights P e
          rw [DataW.weights, he]
          refine List.mem_cons.2 (.inl ?_)
          rw [hB]
          simp only [ChangeShapes.lits, List.length_map, List.length_take, List.length_drop, h4]
          omega
        have hw2 : (C r) * 1 ∈ d.weights P t := by
          rw [hx, DataW.weights, ht]
          refine List.mem_cons_of_mem _ ?_
          rcases List.mem_append.1 hmem with h | h
          · exact List.mem_append_left _ (weightsAll_mem h hw)
          · exact List.mem_append_right _ (weightsAll_mem h hw)
        have := List.all_eq_true.1 hsz _ (DataW.weights_mem_each htj hdj _ hw2)
        have := of_decide_eq_true this
        unfold reachBytes at this
        omega
    refine ⟨h1, h2, hlen, h6, ?_, fun j hj => u8b (h5 _ ?_)⟩
    · cases hA : A r with
      | none => exact .inl ⟨rfl, by have := h6 hA; omega⟩
      | some a' => exact .inr ⟨a', rfl, fun j hj => (h7 a' hA).2 j (by omega)⟩
    · show (Z r).getD j 0 ∈ Z r
      rw [List.getD_eq_getElem?_getD, List.getElem?_eq_getElem (by omega)]
      exact List.getElem_mem _
/-- Lists, one behind the other. -/
def catN (L : Nat → Nat) : Nat → Nat
  | 0 => 0
  | r + 1 => catN L r + L r
def catZ (L : Nat → Nat) (Z : Nat → Nat → Int) : Nat → Nat → Int
  | 0 => fun _ => 0
  | r + 1 => fun j => if j < catN L r then catZ L Z r j else Z r (j - catN L r)
theorem catZ_b (L : Nat → Nat) (Z : Nat → Nat → Int) : ∀ r, (∀ i, i < r → ∀ j, j < L i → 0 ≤ Z i j ∧ Z i j < 256) → ∀ j, j < catN L r → 0 ≤ catZ L Z r j ∧ catZ L Z r j < 256
  | 0, _, j, hj => by simp [catN] at hj
  | r + 1, h, j, hj => by
    simp only [catZ]
    simp only [catN] at hj
    split
    · exact catZ_b L Z r (fun i hi => h i (by omega)) j (by assumption)
    · exact h r (by omega) _ (by omega)
/-- A digest to which nothing was given. -/
theorem new_hash (w : World) (z : Nat → Int) (B : Nat) : HashOf (w.alloc (.cells (hcells iv (.slice none 0 0) 0) 44)) B w.heap.size z 0 (.slice none 0 0) :=
  ⟨heap_alloc_new w _, OwnS.nil _ _ _⟩
theorem equal64 (f g : Nat → Int) (w : World) : (Op.equalIn 10000 24 (.agg (FR .u8 64 f)) (.agg (FR .u8 64 g))).run Tryd.prog w = .ok (sameRow 64 f g) w := run_equal_FR Tryd.underlying24 Tryd.underlying5 (by kernel_rfl) f g w
theorem same_self (n : Nat) (f : Nat → Int) : sameRow n f f = true := (sameRow_iff n f f).2 fun _ _ => rfl
def PR (L : Nat → Nat) (Z : Nat → Nat → Int) (len0 : Nat) (w : World) (g : Nat) (v12 v4 : Value) (wr : World) : Prop :=
  ∃ (r : Nat) (v : Value), r ≤ len0 ∧ v12 = .int .i64 (r : Int) ∧ catN L r ≤ 8192 ∧ OwnB wr w.heap.size v4 (catN L r) (catZ L Z r) ∧ HashOf wr w.heap.size g (catZ L Z r) (catN L r) v ∧ (∀ b, v4.ownBlock = some b → b ≠ g ∧ v.ownBlock ≠ some b) ∧ Tab wr ∧ Below w.heap.size w wr
theorem IsRowsB.row {w : World} {a : Option Addr} {len cap : Nat} {A : Nat → Option Addr} {L C : Nat → Nat} {Z : Nat → Nat → Int} (h : IsRowsB w a len cap A L C Z) (r : Nat) (hr : r < len) :
    ∃ x, a = some x ∧ len ≤ cap ∧ cap ≤ maxLen ∧ w.cell? (x.add r) = some (.slice (A r) (L r) (C r)) ∧ L r ≤ 140737488351232 ∧ (A r = none → C r = 0) ∧ NumsAt .u8 w (A r) (L r) (Z r) := by
  rcases h with ⟨_, rfl, _⟩ | ⟨x, rfl, h1, h2, h3⟩
  · omega
  · obtain ⟨k1, k2, k3, k4, k5, k6⟩ := h3 r (by omega)
    exact ⟨x, rfl, h1, h2, k1, by omega, k4, k5⟩
theorem IsRowsB.bounds {w : World} {a : Option Addr} {len cap : Nat} {A : Nat → Option Addr} {L C : Nat → Nat} {Z : Nat → Nat → Int} (h : IsRowsB w a len cap A L C Z) : ∀ r, r < len → ∀ j, j < L r → 0 ≤ Z r j ∧ Z r j < 256 := by
  intro r hr
  rcases h with ⟨_, rfl, _⟩ | ⟨x, rfl, h1, h2, h3⟩
  · omega
  · exact (h3 r (by omega)).2.2.2.2.2
set_option maxRecDepth 100000 in
set_option maxHeartbeats 2000000 in
theorem Digest2Pieces_walk (a0 : Option Addr) (len0 cap0 : Nat) (A : Nat → Option Addr) (L C : Nat → Nat) (Z : Nat → Nat → Int) (w : World) (ho : Tab w) (w0 : IsRowsB w a0 len0 cap0 A L C Z) :
    Calls Tryd.prog 5 #[.slice a0 len0 cap0] w fun e w' => e = .returned (.bool true) ∧ Below w.heap.size w w' := by
  have HT := Aside0.mk ho
  have HIn := Aside0.mk w0
  have HLEN : Aside0 (len0 ≤ maxLen) := ⟨by rcases w0 with ⟨_, rfl, _⟩ | ⟨x, _, h1, h2, _⟩; exact Nat.zero_le _; omega⟩
  have HLT := Aside0.mk ho.lt
  clear ho w0
  go_enter Tryd.func5, Tryd.ntmps5
  go_wp2_with fail
  refine (alive_calls _ HT.out).mono ?_
  rintro e w1 ⟨rfl, hb⟩
  have HB1 := Aside0.mk hb
  have HT1 := Aside0.mk (HT.out.keep (hb.block _ HT.out.lt))
  clear hb
  go_wp2_with fail
  refine (new_calls _).mono ?_
  rintro e w2 ⟨rfl, rfl⟩
  have HB2 := Aside0.mk (HB1.out.alloc HB1.out.size (.cells (hcells iv (.slice none 0 0) 0) 44))
  have HT2 := Aside0.mk (HT1.out.keep (w' := w1.alloc (.cells (hcells iv (.slice none 0 0) 0) 44)) (Below.heap_alloc w1 _ _ HT1.out.lt))
  have HF2 := Aside0.mk (new_hash w1 (catZ L Z 0) w.heap.size)
  have hg0 : w.heap.size ≤ w1.heap.size := HB1.out.size
  obtain ⟨g, hg⟩ : ∃ g, w1.heap.size = g := ⟨_, rfl⟩
  rw [hg] at hg0 HF2
  have hgn : g < (w1.alloc (.cells (hcells iv (.slice none 0 0) 0) 44)).heap.size := by simp; omega
  rw [hg]
  have hgm := Nat.le_trans hg0 (Nat.le_of_lt hgn)
  clear HB1 HT1
  generalize w1.alloc (.cells (hcells iv (.slice none 0 0) 0) 44) = w2 at *
  clear hg
  go_wp2_with fail
  go_loopw [12, 4] (fun v12 v4 wr => PR L Z len0 w g v12 v4 wr) (fun v _ _ => len0 - (intOf v).toNat)
  case atStart => exact ⟨0, _, by omega, rfl, by simp [catN], OwnS.nil _ _ _, HF2.out, fun b h => (by cases h), HT2.out, HB2.out⟩
  case round =>
    clear HF2 HT2 HB2
    obtain ⟨r, v, hr, rfl, hn, hown, hh, hdis, ht, hb⟩ := hrel
    have HOW := Aside0.mk hown
    have HH := Aside0.mk hh
    have HD := Aside0.mk hdis
    have HTr := Aside0.mk ht
    have HB := Aside0.mk hb
    have HBD := Aside0.mk HIn.out.bounds
    have hsz := hb.size
    obtain ⟨x4, c4, rfl⟩ := hown.form
    clear hown hh hdis ht hb
    rcases Nat.lt_or_ge r len0 with h8 | h8
    · have hlt : ((r : Int) < (len0 : Int)) = True := eq_true (by omega)
      obtain ⟨x, rfl, hlc, hcm, hcell, hL, hA0, hnums⟩ := HIn.out.row r h8
      have hxl := World.block_lt_of_cell? w _ hcell
      have kx : wr.cell? (x.add r) = some (.slice (A r) (L r) (C r)) := (World.cell?_of_block (HB.out.block _ hxl)).trans hcell
      have HNl := Aside0.mk hnums.lt
      have hnums0 := Aside0.mk hnums
      have HI := Aside0.mk (hnums.below HB.out HNl.out)
      have HA0 := Aside0.mk hA0
      have hcm2 : cap0 ≤ 9223372036854775807 := by unfold maxLen at hcm; omega
      have hlc2 : (len0 : Int) ≤ (cap0 : Int) := by omega
      have hsum : IntKind.i64.wrap ((catN L r : Int) + (L r : Int)) = (catN L r : Int) + (L r : Int) := i64w _ (by omega)
      clear hcell hnums hxl hA0 hcm
      by_cases h1 : 8192 < catN L r + L r
      · have q1 : ((catN L r : Int) + (L r : Int) > 8192) = True := eq_true (by omega)
        have q2 : ((8192 : Int) < (catN L r : Int) + (L r : Int)) = True := eq_true (by omega)
        clear h1
        go_wp2_with fail
        go_ret
        exact ⟨rfl, HB.out⟩
      have q1 : ((catN L r : Int) + (L r : Int) > 8192) = False := eq_false (by omega)
      have q2 : ((8192 : Int) < (catN L r : Int) + (L r : Int)) = False := eq_false (by omega)
      by_cases h2 : 100 < len0
      · have q3 : ((len0 : Int) > 100) = True := eq_true (by omega)
        have q4 : ((100 : Int) < (len0 : Int)) = True := eq_true (by omega)
        clear h1 h2
        go_wp2_with fail
        go_ret
        exact ⟨rfl, HB.out⟩
      have q3 : ((len0 : Int) > 100) = False := eq_false (by omega)
      have q4 : ((100 : Int) < (len0 : Int)) = False := eq_false (by omega)
      have HN1 : Aside0 (catN L r + L r ≤ 8192) := ⟨by omega⟩
      clear h1 h2
      go_wp2_with (refine step_append HOW.out HI.out Tryd.underlying22 info8p rfl rfl rfl rfl rfl HA0.out (by have := HN1.out; unfold maxLen; omega) (by have := HN1.out; omega) hsz ?_; intro v5 w5 ho5 hg5 hat _; obtain ⟨x5, c5, rfl⟩ := ho5.form; have HG5 := Aside0.mk hg5; have HAT := Aside0.mk hat; have HO5 := Aside0.mk ho5; clear ho5 hg5 hat)
      have hgwr := HH.out.1.lt
      have HNE : Aside0 ((Value.slice x4 (catN L r) c4).ownBlock ≠ some g) := ⟨fun e => (HD.out g e).1 rfl⟩
      have HVLT := Aside0.mk (HH.out.2.lt)
      have HB5 := Aside0.mk (grown_bel HB.out HG5.out hsz (fun b hb => (HOW.out.lt b hb).1))
      have HT5 := Aside0.mk (HT.out.keep (HB5.out.block _ HT.out.lt))
      have HH5 : Aside0 (HashOf w5 w.heap.size g (catZ L Z r) (catN L r) v) := ⟨⟨HH.out.1.keep (HG5.out.block g hgwr (fun e => HNE.out e.symm)), HH.out.2.keep (fun b hb => HG5.out.block b (HVLT.out b hb).2 (fun e => (HD.out b e.symm).2 hb))⟩⟩
      have HD5 : Aside0 (∀ b, (Value.slice x5 (catN L r + L r) c5).ownBlock = some b → b ≠ g ∧ v.ownBlock ≠ some b) := ⟨fun b hb => by
        rcases HAT.out with h | h
        · exact HD.out b (by rw [← h]; exact hb)
        · rw [h] at hb
          cases hb
          exact ⟨fun e => by omega, fun e => by have := (HVLT.out _ e).2; omega⟩⟩
      have HI5 := Aside0.mk (hnums0.out.below HB5.out HNl.out)
      have hs5 := HB5.out.size
      have HWR := Aside0.mk (write_calls (catZ L Z r) (Z r) (catN L r) (L r) w.heap.size g v (A r) (C r) w5 HT5.out HH5.out HLT.out ⟨hg0, hs5⟩ HI5.out HA0.out (fun y hy h0 => by have := HNl.out y hy h0; omega) (by have := HN1.out; omega) (catZ_b L Z r (fun i hi => HBD.out i (by omega))) (HBD.out r h8))
      clear HOW HH HD HTr HI
      go_wp2_with fail
      refine (HWR.out).mono ?_
      rintro e w6 ⟨rfl, v6, hh6, hc6, hv6⟩
      have HZB : Aside0 (∀ j, j < catN L r + L r → 0 ≤ catZ L Z (r + 1) j ∧ catZ L Z (r + 1) j < 256) := ⟨catZ_b L Z (r + 1) (fun i hi => HBD.out i (by omega))⟩
      have HB6 := Aside0.mk (Chg.below HB5.out hc6 hs5 (fun b e => by
        rcases e with rfl | e
        · exact hg0
        · exact (HVLT.out b e.symm).1))
      have HT6 := Aside0.mk (HT.out.keep (HB6.out.block _ HT.out.lt))
      have HO6 : Aside0 (OwnB w6 w.heap.size (.slice x5 (catN L r + L r) c5) (catN L r + L r) (catZ L Z (r + 1))) := ⟨HO5.out.keep (fun b hb => hc6.block b (HO5.out.lt b hb).2 (fun e => by
        rcases e with e | e
        · exact (HD5.out b hb).1 e
        · exact (HD5.out b hb).2 e.symm))⟩
      have HD6 : Aside0 (∀ b, (Value.slice x5 (catN L r + L r) c5).ownBlock = some b → b ≠ g ∧ v6.ownBlock ≠ some b) := ⟨fun b hb => ⟨(HD5.out b hb).1, fun e => by
        rcases hv6 with h | h
        · exact (HD5.out b hb).2 (by rw [← h]; exact e)
        · have := h b e; have := (HO5.out.lt b hb).2; omega⟩⟩
      have HH6 : Aside0 (HashOf w6 w.heap.size g (catZ L Z (r + 1)) (catN L r + L r) v6) := ⟨hh6⟩
      clear hh6 hc6 hv6 HWR HI5 HD5 HO5 HH5 HT5 HG5 HAT
      have hs6 := HB6.out.size
      have HSM := Aside0.mk (sum_calls _ _ w.heap.size g v6 w6 HT6.out HH6.out (by have := HN1.out; omega) HZB.out)
      go_wp2_with fail
      refine (HSM.out).mono ?_
      rintro e w7 ⟨rfl, hb7⟩
      have HB7 := Aside0.mk (HB6.out.trans (hb7.mono hs6))
      have HT7 := Aside0.mk (HT.out.keep (HB7.out.block _ HT.out.lt))
      have HO7 := Aside0.mk (HO6.out.below hb7 (fun b h => (HO6.out.lt b h).2))
      have HH7 : Aside0 (HashOf w7 w.heap.size g (catZ L Z (r + 1)) (catN L r + L r) v6) := ⟨⟨HH6.out.1.below hb7 HH6.out.1.lt, HH6.out.2.below hb7 (fun b h => (HH6.out.2.lt b h).2)⟩⟩
      obtain ⟨a7, c7, e7, hn7, hz7⟩ := HO7.out.numsAt
      cases e7
      have HOF := Aside0.mk (of_calls _ _ _ c5 w7 HT7.out hn7 hz7 (by have := HN1.out; omega) HZB.out)
      have hq := equal64 (dg (catZ L Z (r + 1)) (catN L r + L r)) (dg (catZ L Z (r + 1)) (catN L r + L r))
      rw [same_self] at hq
      clear hb7 hn7 hz7 HSM HO6 HH6 HT6
      generalize dg (catZ L Z (r + 1)) (catN L r + L r) = D at *
      have hs7 := HB7.out.size
      go_wp2_with fail
      refine (HOF.out).mono ?_
      rintro e w8 ⟨rfl, hb8⟩
      have HB8 := Aside0.mk (HB7.out.trans (hb8.mono hs7))
      have HT8 := Aside0.mk (HT.out.keep (HB8.out.block _ HT.out.lt))
      have HO8 := Aside0.mk (HO7.out.below hb8 (fun b h => (HO7.out.lt b h).2))
      have HH8 : Aside0 (HashOf w8 w.heap.size g (catZ L Z (r + 1)) (catN L r + L r) v6) := ⟨⟨HH7.out.1.below hb8 HH7.out.1.lt, HH7.out.2.below hb8 (fun b h => (HH7.out.2.lt b h).2)⟩⟩
      clear hb8 HOF HT7 HO7 HH7
      go_wp2_with fail
      exact ⟨⟨r + 1, v6, by omega, rfl, HN1.out, HO8.out, HH8.out, HD6.out, HT8.out, HB8.out⟩, meas_up len0 r h8⟩
    · obtain rfl : len0 = r := by omega
      have HZB : Aside0 (∀ j, j < catN L len0 → 0 ≤ catZ L Z len0 j ∧ catZ L Z len0 j < 256) := ⟨catZ_b L Z len0 HBD.out⟩
      have HSM := Aside0.mk (sum_calls _ _ w.heap.size g v wr HTr.out HH.out (by omega) HZB.out)
      have hq := equal64 (dg (catZ L Z len0) (catN L len0)) (dg (catZ L Z len0) (catN L len0))
      rw [same_self] at hq
      go_wp2_with fail
      refine (HSM.out).mono ?_
      rintro e w7 ⟨rfl, hb7⟩
      have HB7 := Aside0.mk (HB.out.trans (hb7.mono hsz))
      have HT7 := Aside0.mk (HT.out.keep (HB7.out.block _ HT.out.lt))
      have HO7 := Aside0.mk (HOW.out.below hb7 (fun b h => (HOW.out.lt b h).2))
      obtain ⟨a7, c7, e7, hn7, hz7⟩ := HO7.out.numsAt
      cases e7
      have HOF := Aside0.mk (of_calls _ _ _ c4 w7 HT7.out hn7 hz7 (by omega) HZB.out)
      clear hb7 hn7 hz7 HSM HOW HH HTr HD HO7
      generalize dg (catZ L Z len0) (catN L len0) = D at *
      have hs7 := HB7.out.size
      go_wp2_with fail
      refine (HOF.out).mono ?_
      rintro e w8 ⟨rfl, hb8⟩
      have HB8 := Aside0.mk (HB7.out.trans (hb8.mono hs7))
      clear hb8 HOF
      go_wp2_with fail
      go_ret
      exact ⟨rfl, HB8.out⟩
end Go.Proofs.YtlopmjolahhpnaaDoor.P
