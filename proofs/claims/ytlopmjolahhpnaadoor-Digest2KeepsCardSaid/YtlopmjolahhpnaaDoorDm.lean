/- The law Digest2Keeps, by its walk. -/
import Derived.Test.YtlopmjolahhpnaaDoorDl
namespace Go.Proofs.YtlopmjolahhpnaaDoor.P
set_option linter.unusedVariables false
set_option linter.unusedSimpArgs false
open Go.RowKit Go.Proofs.YtlopmjolahhpnaaDoorW.PrintWords Go.Proofs.YtlopmjolahhpnaaDoorW.PrintLast Go.Proofs.YtlopmjolahhpnaaDoorW.PrintMore
attribute [local go_sem] setCell_drewN
theorem NumsAt.conv {w : World} {a : Option Addr} {n cap : Nat} {z : Nat → Int} (h : NumsAt .u8 w a n z) (hz : ∀ j, j < n → 0 ≤ z j ∧ z j < 256) : (convert 22 9 (.slice a n cap)).run Tryd.prog w = .ok (.string (sN n z)) w := by
  rcases h with ⟨rfl, rfl⟩ | ⟨x, rfl, h⟩
  · exact run_convert_bytes_nil w 22 5 Tryd.underlying22 Tryd.underlying5 0 cap 9 Tryd.underlying9
  · have hl : ((List.range n).map fun j => UInt8.ofNat (z j).toNat).length = n := by simp
    have hr := run_convert_bytes_back (P := Tryd.prog) w 22 9 5 x cap ((List.range n).map fun j => UInt8.ofNat (z j).toNat) Tryd.underlying22 Tryd.underlying5 Tryd.underlying9 (fun j hj => by
      have hj' : j < n := by rw [hl] at hj; exact hj
      rw [h j hj']
      have h3 := hz j hj'
      simp
      omega)
    rw [hl] at hr
    rw [hr]
    congr 2
    simp [sN, strOfNums]
theorem bel_any (w : World) (o : Obj) : Below w.heap.size w (w.alloc o) := (Below.refl _ _).alloc (Nat.le_refl _) _
/-- Three owners and two digests lie apart. -/
def Dis (v5 v1 v2 : Value) (g1 g2 : Nat) : Prop := g1 ≠ g2 ∧ ∀ b, (v5.ownBlock = some b → b ≠ g1 ∧ b ≠ g2 ∧ v1.ownBlock ≠ some b ∧ v2.ownBlock ≠ some b) ∧ (v1.ownBlock = some b → b ≠ g1 ∧ b ≠ g2 ∧ v2.ownBlock ≠ some b) ∧ (v2.ownBlock = some b → b ≠ g1 ∧ b ≠ g2)
structure KP (w : World) (n5 n1 n2 : Nat) (z5 z1 z2 : Nat → Int) (v5 v1 v2 : Value) (g1 g2 : Nat) (wr : World) : Prop where
  own : OwnB wr w.heap.size v5 n5 z5
  h1 : HashOf wr w.heap.size g1 z1 n1 v1
  h2 : HashOf wr w.heap.size g2 z2 n2 v2
  dis : Dis v5 v1 v2 g1 g2
  tab : Tab wr
  bel : Below w.heap.size w wr
  lo1 : w.heap.size ≤ g1
  lo2 : w.heap.size ≤ g2
section
variable {w wr w' : World} {n5 n1 n2 : Nat} {z5 z1 z2 : Nat → Int} {v5 v1 v2 : Value} {g1 g2 : Nat}
theorem HashOf.below {w w' : World} {B g n : Nat} {z : Nat → Int} {v : Value} {C : Nat} (h : HashOf w B g z n v) (hb : Below C w w') (hC : w.heap.size ≤ C) : HashOf w' B g z n v :=
  ⟨h.1.below hb (Nat.lt_of_lt_of_le h.1.lt hC), h.2.below hb (fun b e => Nat.lt_of_lt_of_le (h.2.lt b e).2 hC)⟩
theorem KP.below (k : KP w n5 n1 n2 z5 z1 z2 v5 v1 v2 g1 g2 wr) (hb : Below wr.heap.size wr w') : KP w n5 n1 n2 z5 z1 z2 v5 v1 v2 g1 g2 w' :=
  ⟨k.own.below hb (fun b e => (k.own.lt b e).2), k.h1.below hb (Nat.le_refl _), k.h2.below hb (Nat.le_refl _), k.dis, k.tab.keep (hb.block _ k.tab.lt), k.bel.trans (hb.mono k.bel.size), k.lo1, k.lo2⟩
theorem HashOf.keep {w w' : World} {B g n : Nat} {z : Nat → Int} {v : Value} (h : HashOf w B g z n v) (hg : w'.heap[g]? = w.heap[g]?) (hv : ∀ b, v.ownBlock = some b → w'.heap[b]? = w.heap[b]?) : HashOf w' B g z n v := ⟨h.1.keep hg, h.2.keep hv⟩
/-- Behind a Write to the first digest. -/
theorem KP.write1 (k : KP w n5 n1 n2 z5 z1 z2 v5 v1 v2 g1 g2 wr) {z : Nat → Int} {n : Nat} {v : Value} (hh : HashOf w' w.heap.size g1 z n v) (hc : Chg (fun b => b = g1 ∨ some b = v1.ownBlock) wr w') (hv : v.ownBlock = v1.ownBlock ∨ ∀ b, v.ownBlock = some b → wr.heap.size ≤ b) (ht : 0 < w.heap.size) : KP w n5 n n2 z5 z z2 v5 v v2 g1 g2 w' := by
  obtain ⟨hne, hd⟩ := k.dis
  have hB := Chg.below k.bel hc k.bel.size (fun b e => by
    rcases e with rfl | e
    · exact k.lo1
    · exact (k.h1.2.lt b e.symm).1)
  refine ⟨k.own.keep fun b hb => hc.block b (k.own.lt b hb).2 ?_, hh, k.h2.keep (hc.block g2 k.h2.1.lt ?_) fun b hb => hc.block b (k.h2.2.lt b hb).2 ?_, ⟨hne, fun b => ⟨fun hb => ?_, fun hb => ?_, (hd b).2.2⟩⟩, k.tab.keep ?_, hB, k.lo1, k.lo2⟩
  · rintro (e | e)
    · exact ((hd b).1 hb).1 e
    · exact ((hd b).1 hb).2.2.1 e.symm
  · rintro (e | e)
    · exact hne e.symm
    · exact ((hd g2).2.1 e.symm).2.1 rfl
  · rintro (e | e)
    · exact ((hd b).2.2 hb).1 e
    · exact ((hd b).2.1 e.symm).2.2 hb
  · obtain ⟨p1, p2, p3, p4⟩ := (hd b).1 hb
    refine ⟨p1, p2, fun e => ?_, p4⟩
    rcases hv with h | h
    · exact p3 (by rw [← h]; exact e)
    · have := h b e; have := (k.own.lt b hb).2; omega
  · rcases hv with h | h
    · exact (hd b).2.1 (by rw [← h]; exact hb)
    · have h3 := h b hb
      refine ⟨fun e => by have := k.h1.1.lt; omega, fun e => by have := k.h2.1.lt; omega, fun e => by have := (k.h2.2.lt b e).2; omega⟩
  · exact (hB.block _ ht).trans (k.bel.block _ ht).symm
theorem KP.write2 (k : KP w n5 n1 n2 z5 z1 z2 v5 v1 v2 g1 g2 wr) {z : Nat → Int} {n : Nat} {v : Value} (hh : HashOf w' w.heap.size g2 z n v) (hc : Chg (fun b => b = g2 ∨ some b = v2.ownBlock) wr w') (hv : v.ownBlock = v2.ownBlock ∨ ∀ b, v.ownBlock = some b → wr.heap.size ≤ b) (ht : 0 < w.heap.size) : KP w n5 n1 n z5 z1 z v5 v1 v g1 g2 w' := by
  obtain ⟨hne, hd⟩ := k.dis
  have hB := Chg.below k.bel hc k.bel.size (fun b e => by
    rcases e with rfl | e
    · exact k.lo2
    · exact (k.h2.2.lt b e.symm).1)
  refine ⟨k.own.keep fun b hb => hc.block b (k.own.lt b hb).2 ?_, k.h1.keep (hc.block g1 k.h1.1.lt ?_) fun b hb => hc.block b (k.h1.2.lt b hb).2 ?_, hh, ⟨hne, fun b => ⟨fun hb => ?_, fun hb => ?_, fun hb => ?_⟩⟩, k.tab.keep ?_, hB, k.lo1, k.lo2⟩
  · rintro (e | e)
    · exact ((hd b).1 hb).2.1 e
    · exact ((hd b).1 hb).2.2.2 e.symm
  · rintro (e | e)
    · exact hne e
    · exact ((hd g1).2.2 e.symm).1 rfl
  · rintro (e | e)
    · exact ((hd b).2.1 hb).2.1 e
    · exact ((hd b).2.1 hb).2.2 e.symm
  · obtain ⟨p1, p2, p3, p4⟩ := (hd b).1 hb
    refine ⟨p1, p2, p3, fun e => ?_⟩
    rcases hv with h | h
    · exact p4 (by rw [← h]; exact e)
    · have := h b e; have := (k.own.lt b hb).2; omega
  · obtain ⟨p1, p2, p3⟩ := (hd b).2.1 hb
    refine ⟨p1, p2, fun e => ?_⟩
    rcases hv with h | h
    · exact p3 (by rw [← h]; exact e)
    · have := h b e; have := (k.h1.2.lt b hb).2; omega
  · rcases hv with h | h
    · exact (hd b).2.2 (by rw [← h]; exact hb)
    · have h3 := h b hb
      refine ⟨fun e => by have := k.h1.1.lt; omega, fun e => by have := k.h2.1.lt; omega⟩
  · exact (hB.block _ ht).trans (k.bel.block _ ht).symm
/-- Behind a store into the bytes that the call owns. -/
theorem KP.store {g o cap i : Nat} {x : Int} (k : KP w n5 n1 n2 z5 z1 z2 (.slice (some ⟨g, o, none⟩) n5 cap) v1 v2 g1 g2 wr) (hi : i < n5) (ht : 0 < w.heap.size) : KP w n5 n1 n2 (upd z5 i x) z1 z2 (.slice (some ⟨g, o, none⟩) n5 cap) v1 v2 g1 g2 (wr.setCell ⟨g, o + i, none⟩ (.int .u8 x)) := by
  obtain ⟨p1, p2, p3, p4⟩ := (k.dis.2 g).1 rfl
  have hg := (k.own.lt g rfl).1
  have hB := bel_set k.bel ⟨g, o + i, none⟩ (.int .u8 x) hg
  exact ⟨k.own.set x hi, k.h1.keep (heap_setCell_other _ _ _ _ (Ne.symm p1)) (fun b hb => heap_setCell_other _ _ _ _ (fun e => p3 (by rw [hb, e]))), k.h2.keep (heap_setCell_other _ _ _ _ (Ne.symm p2)) (fun b hb => heap_setCell_other _ _ _ _ (fun e => p4 (by rw [hb, e]))), k.dis, k.tab.keep ((hB.block _ ht).trans (k.bel.block _ ht).symm), hB, k.lo1, k.lo2⟩
end
def inc (z : Nat → Int) (i : Nat) : Nat → Int := fun j => if j < i then (z j + 1) % 256 else z j
def KR (w : World) (n5 n1 n2 : Nat) (z5 z1 z2 : Nat → Int) (v5 v1 v2 : Value) (g1 g2 : Nat) (v38 : Value) (wr : World) : Prop := ∃ i : Nat, i ≤ n5 ∧ v38 = .int .i64 (i : Int) ∧ KP w n5 n1 n2 (inc z5 i) z1 z2 v5 v1 v2 g1 g2 wr
theorem inc_zero (z : Nat → Int) : inc z 0 = z := by
  funext j
  unfold inc
  rw [if_neg (by omega)]
theorem inc_succ (z : Nat → Int) (i : Nat) : upd (inc z i) i ((z i + 1) % 256) = inc z (i + 1) := by
  funext j
  show (if j = i then _ else if j < i then _ else _) = if j < i + 1 then _ else _
  by_cases h : j = i
  · subst h; rw [if_pos rfl, if_pos (by omega)]
  · rw [if_neg h]
    by_cases h2 : j < i
    · rw [if_pos h2, if_pos (by omega)]
    · rw [if_neg h2, if_neg (by omega)]
theorem own_zero {w : World} {B n : Nat} {v : Value} {z z' : Nat → Int} (h : OwnB w B v (0 + n) (fun j => if j < 0 then z' j else z (j - 0))) : OwnB w B v n z := by
  rw [Nat.zero_add] at h
  exact OwnS.congr h (fun j _ => by rw [if_neg (by omega)]; rfl)
theorem hash_zero {w : World} {B g n : Nat} {v : Value} {z z' : Nat → Int} (h : HashOf w B g (fun j => if j < 0 then z' j else z (j - 0)) (0 + n) v) : HashOf w B g z n v := by
  rw [Nat.zero_add] at h
  rw [show (fun j => if j < 0 then z' j else z (j - 0)) = z by funext j; rw [if_neg (by omega)]; rfl] at h
  exact h
theorem KP.start {w w5 : World} {n5 : Nat} {z5 : Nat → Int} {v5 : Value} (ho : OwnB w5 w.heap.size v5 n5 z5) (hb : Below w.heap.size w w5) (ht : Tab w) (z1 z2 : Nat → Int) :
    KP w n5 0 0 z5 z1 z2 v5 (.slice none 0 0) (.slice none 0 0) w5.heap.size (w5.heap.size + 1) ((w5.alloc (.cells (hcells iv (.slice none 0 0) 0) 44)).alloc (.cells (hcells iv (.slice none 0 0) 0) 44)) := by
  have hs : (w5.alloc (.cells (hcells iv (.slice none 0 0) 0) 44)).heap.size = w5.heap.size + 1 := by simp
  have h2 := new_hash (w5.alloc (.cells (hcells iv (.slice none 0 0) 0) 44)) z2 w.heap.size
  rw [hs] at h2
  have hb2 := (hb.alloc hb.size (.cells (hcells iv (.slice none 0 0) 0) 44)).alloc (by rw [hs]; have := hb.size; omega) (.cells (hcells iv (.slice none 0 0) 0) 44)
  exact ⟨(ho.alloc _).alloc _, (new_hash w5 z1 w.heap.size).below (bel_any _ _) (Nat.le_refl _), h2, ⟨by omega, fun b => ⟨fun h => by have := (ho.lt b h).2; exact ⟨by omega, by omega, (by intro e; cases e), (by intro e; cases e)⟩, (by intro e; cases e), (by intro e; cases e)⟩⟩, ht.keep (hb2.block _ ht.lt), hb2, hb.size, by have := hb.size; omega⟩
theorem zero_lit : (#[.int .u8 0, .int .u8 0, .int .u8 0, .int .u8 0, .int .u8 0, .int .u8 0, .int .u8 0, .int .u8 0, .int .u8 0, .int .u8 0, .int .u8 0, .int .u8 0, .int .u8 0, .int .u8 0, .int .u8 0, .int .u8 0, .int .u8 0, .int .u8 0, .int .u8 0, .int .u8 0, .int .u8 0, .int .u8 0, .int .u8 0, .int .u8 0, .int .u8 0, .int .u8 0, .int .u8 0, .int .u8 0, .int .u8 0, .int .u8 0, .int .u8 0, .int .u8 0, .int .u8 0, .int .u8 0, .int .u8 0, .int .u8 0, .int .u8 0, .int .u8 0, .int .u8 0, .int .u8 0, .int .u8 0, .int .u8 0, .int .u8 0, .int .u8 0, .int .u8 0, .int .u8 0, .int .u8 0, .int .u8 0, .int .u8 0, .int .u8 0, .int .u8 0, .int .u8 0, .int .u8 0, .int .u8 0, .int .u8 0, .int .u8 0, .int .u8 0, .int .u8 0, .int .u8 0, .int .u8 0, .int .u8 0, .int .u8 0, .int .u8 0, .int .u8 0] : Array Value) = FR .u8 64 fun _ => 0 := rfl
theorem equal64z (w : World) : (Op.equalIn 10000 24 (.agg (FR .u8 64 fun _ => 0)) (.agg #[.int .u8 0, .int .u8 0, .int .u8 0, .int .u8 0, .int .u8 0, .int .u8 0, .int .u8 0, .int .u8 0, .int .u8 0, .int .u8 0, .int .u8 0, .int .u8 0, .int .u8 0, .int .u8 0, .int .u8 0, .int .u8 0, .int .u8 0, .int .u8 0, .int .u8 0, .int .u8 0, .int .u8 0, .int .u8 0, .int .u8 0, .int .u8 0, .int .u8 0, .int .u8 0, .int .u8 0, .int .u8 0, .int .u8 0, .int .u8 0, .int .u8 0, .int .u8 0, .int .u8 0, .int .u8 0, .int .u8 0, .int .u8 0, .int .u8 0, .int .u8 0, .int .u8 0, .int .u8 0, .int .u8 0, .int .u8 0, .int .u8 0, .int .u8 0, .int .u8 0, .int .u8 0, .int .u8 0, .int .u8 0, .int .u8 0, .int .u8 0, .int .u8 0, .int .u8 0, .int .u8 0, .int .u8 0, .int .u8 0, .int .u8 0, .int .u8 0, .int .u8 0, .int .u8 0, .int .u8 0, .int .u8 0, .int .u8 0, .int .u8 0, .int .u8 0])).run Tryd.prog w = .ok true w := by
  rw [zero_lit, equal64, same_self]
set_option maxRecDepth 100000 in
set_option maxHeartbeats 2000000 in
theorem Digest2Keeps_walk (a0 : Option Addr) (len0 cap0 : Nat) (zs0 : List Int) (a1 : Option Addr) (len1 cap1 : Nat) (zs1 : List Int) (w : World) (ho : Tab w) (w0 : IsRowB w a0 len0 cap0 zs0) (y0 : len0 * 1 ≤ 140737488351232) (w1 : IsRowB w a1 len1 cap1 zs1) (y1 : len1 * 1 ≤ 140737488351232) :
    Calls Tryd.prog 6 #[.slice a0 len0 cap0, .slice a1 len1 cap1] w fun e w' => e = .returned (.bool true) ∧ Below w.heap.size w w' := by
  have HT := Aside0.mk ho
  have HTL := Aside0.mk ho.lt
  obtain ⟨h1, h2, h3, h4⟩ := w0.at
  obtain ⟨k1, k2, k3, k4⟩ := w1.at
  obtain ⟨z0, hz0⟩ : ∃ z, z = fun j => zs0.getD j 0 := ⟨_, rfl⟩
  obtain ⟨z1, hz1⟩ : ∃ z, z = fun j => zs1.getD j 0 := ⟨_, rfl⟩
  rw [← hz0] at h1
  rw [← hz1] at k1
  have HZ0 : Aside0 (∀ j, j < len0 → 0 ≤ z0 j ∧ z0 j < 256) := ⟨by rw [hz0]; exact h2⟩
  have HZ1 : Aside0 (∀ j, j < len1 → 0 ≤ z1 j ∧ z1 j < 256) := ⟨by rw [hz1]; exact k2⟩
  have HX0 := Aside0.mk h1
  have HX1 := Aside0.mk k1
  have HN0 := Aside0.mk h4
  have HN1 := Aside0.mk k4
  have HA0 := Aside0.mk h1.lt
  have HA1 := Aside0.mk k1.lt
  clear ho w0 w1 h1 h2 h3 h4 k1 k2 k3 k4 hz0 hz1
  have hr0 : (len0 : Int) ≤ 140737488351232 := by omega
  have hr1 : (len1 : Int) ≤ 140737488351232 := by omega
  clear y0 y1
  by_cases hlong : 4096 < len0
  · have hl : ((len0 : Int) > 4096) = True := eq_true (by omega)
    have hl2 : ((4096 : Int) < (len0 : Int)) = True := eq_true (by omega)
    clear hlong
    go_enter Tryd.func6, Tryd.ntmps6
    go_wp2_with fail
    refine (alive_calls _ HT.out).mono ?_
    rintro e w1 ⟨rfl, hb⟩
    have HB1 := Aside0.mk hb
    clear hb
    go_wp2_with fail
    go_ret
    exact ⟨rfl, HB1.out⟩
  have hl : ((len0 : Int) > 4096) = False := eq_false (by omega)
  have hl2 : ((4096 : Int) < (len0 : Int)) = False := eq_false (by omega)
  by_cases hlong1 : 4096 < len1
  · have hm : ((len1 : Int) > 4096) = True := eq_true (by omega)
    have hm2 : ((4096 : Int) < (len1 : Int)) = True := eq_true (by omega)
    clear hlong hlong1
    go_enter Tryd.func6, Tryd.ntmps6
    go_wp2_with fail
    refine (alive_calls _ HT.out).mono ?_
    rintro e w1 ⟨rfl, hb⟩
    have HB1 := Aside0.mk hb
    clear hb
    go_wp2_with fail
    go_ret
    exact ⟨rfl, HB1.out⟩
  have hm : ((len1 : Int) > 4096) = False := eq_false (by omega)
  have hm2 : ((4096 : Int) < (len1 : Int)) = False := eq_false (by omega)
  have HL0 : Aside0 (len0 ≤ 4096) := ⟨by omega⟩
  have HL1 : Aside0 (len1 ≤ 4096) := ⟨by omega⟩
  clear hlong hlong1
  go_enter Tryd.func6, Tryd.ntmps6
  go_wp2_with fail
  refine (alive_calls _ HT.out).mono ?_
  rintro e w1 ⟨rfl, hb⟩
  have HB1 := Aside0.mk hb
  have HT1 := Aside0.mk (HT.out.keep (hb.block _ HT.out.lt))
  clear hb
  have hs1 := HB1.out.size
  have HO2 := Aside0.mk (OwnS.made (e := 5) (k := .u8) (base := w.heap.size) w1 0 z0 hs1 (Nat.zero_le _))
  have HB2 := Aside0.mk (HB1.out.alloc hs1 (.cells (FR .u8 0 z0) 5))
  have hs2 := HB2.out.size
  have HX2 := Aside0.mk (HX0.out.below HB2.out HA0.out)
  go_wp2_with (refine step_append HO2.out HX2.out Tryd.underlying22 info8p rfl rfl rfl rfl rfl HN0.out (by have := HL0.out; unfold maxLen; omega) (by have := HL0.out; omega) hs2 ?_; intro v5 w5 ho5 hg5 hat _; have ho6 : OwnB w5 w.heap.size v5 len0 z0 := own_zero ho5; obtain ⟨x5, c5, rfl⟩ := ho6.form; have HB5 := Aside0.mk (grown_bel HB2.out hg5 hs2 (fun b hb => (HO2.out.lt b hb).1)); have HO5 := Aside0.mk ho6; clear ho5 ho6 hg5 hat)
  have HK7 := Aside0.mk (KP.start HO5.out HB5.out HT.out z0 z1)
  clear HO5 HB5 HT1 HB1 HO2 HB2 HX2 hs1 hs2
  go_wp2_with fail
  refine (new_calls _).mono ?_
  rintro e w6 ⟨rfl, rfl⟩
  go_wp2_with fail
  refine (new_calls _).mono ?_
  rintro e w7 ⟨rfl, rfl⟩
  rw [show (w5.alloc (.cells (hcells iv (.slice none 0 0) 0) 44)).heap.size = w5.heap.size + 1 by simp]
  generalize ((w5.alloc (.cells (hcells iv (.slice none 0 0) 0) 44)).alloc (.cells (hcells iv (.slice none 0 0) 0) 44)) = w7 at *
  generalize w5.heap.size = g1 at *
  generalize g1 + 1 = g2 at *
  obtain ⟨a7, c7, e7, hn7, hz7⟩ := HK7.out.own.numsAt
  cases e7
  have HWR := Aside0.mk (write_calls z0 z0 0 len0 w.heap.size g1 (.slice none 0 0) x5 c5 w7 HK7.out.tab HK7.out.h1 HTL.out ⟨HK7.out.lo1, HK7.out.bel.size⟩ hn7 hz7 (fun y hy h0 => by subst hy; exact ((HK7.out.dis.2 y.block).1 rfl).1) (by have := HL0.out; omega) (fun j hj => by omega) HZ0.out)
  clear hn7 hz7
  go_wp2_with fail
  refine (HWR.out).mono ?_
  rintro e w8 ⟨rfl, v1, hh8, hc8, hv8⟩
  have HK8 := Aside0.mk (HK7.out.write1 (hash_zero hh8) hc8 hv8 HTL.out)
  clear hh8 hc8 hv8 HWR HK7
  have HXb := Aside0.mk (HX1.out.below HK8.out.bel HA1.out)
  have HWR := Aside0.mk (write_calls z1 z1 0 len1 w.heap.size g2 (.slice none 0 0) a1 cap1 w8 HK8.out.tab HK8.out.h2 HTL.out ⟨HK8.out.lo2, HK8.out.bel.size⟩ HXb.out HN1.out (fun y hy h0 => by have := HA1.out y hy h0; have := HK8.out.lo2; omega) (by have := HL1.out; omega) (fun j hj => by omega) HZ1.out)
  go_wp2_with fail
  refine (HWR.out).mono ?_
  rintro e w9 ⟨rfl, v2, hh9, hc9, hv9⟩
  have HK9 := Aside0.mk (HK8.out.write2 (hash_zero hh9) hc9 hv9 HTL.out)
  clear hh9 hc9 hv9 HWR HK8 HXb
  obtain ⟨a9, c9, e9, hn9, hz9⟩ := HK9.out.own.numsAt
  cases e9
  have hcv1 := hn9.conv (cap := c5) HZ0.out
  have hcv2 := (HX0.out.below HK9.out.bel HA0.out).conv (cap := cap0) HZ0.out
  have hbs := beq_same (sN len0 z0)
  clear hn9 hz9
  go_wp2_with fail
  clear hcv1 hcv2 hbs
  have HK10 : Aside0 (KP w len0 len0 len1 (inc z0 0) z0 z1 (.slice x5 len0 c5) v1 v2 g1 g2 w9) := ⟨by rw [inc_zero]; exact HK9.out⟩
  clear HK9
  go_loopw [38] (fun v38 wr => KR w len0 len0 len1 z0 z0 z1 (.slice x5 len0 c5) v1 v2 g1 g2 v38 wr) (fun v _ => len0 - (intOf v).toNat)
  case atStart => exact ⟨0, by omega, rfl, HK10.out⟩
  case round =>
    clear HK10
    obtain ⟨i, hi, rfl, hk⟩ := hrel
    have HK := Aside0.mk hk
    clear hk
    rcases Nat.lt_or_ge i len0 with h8 | h8
    · have hlt : ((i : Int) < (len0 : Int)) = True := eq_true (by omega)
      obtain ⟨g, o, cap, e5, hcap, hg1, hg2, hc, hf, _⟩ := HK.out.own.open (by omega)
      cases e5
      have k0 := hc i h8
      have f0 := hf (o + i)
      have q0 : inc z0 i i = z0 i := if_neg (Nat.lt_irrefl i)
      rw [q0] at k0
      have q1 : IntKind.u8.wrap (z0 i + 1) = (z0 i + 1) % 256 := u8w _
      have q2 : (len0 : Int) ≤ (c5 : Int) := by omega
      have HSt := Aside0.mk (HK.out.store (x := (z0 i + 1) % 256) h8 HTL.out)
      rw [inc_succ] at HSt
      clear hc hf HK q0 hcap
      go_wp2_with fail
      exact ⟨⟨i + 1, by omega, rfl, HSt.out⟩, meas_up len0 i h8⟩
    · obtain rfl : len0 = i := by omega
      have HXb := Aside0.mk (HX1.out.below HK.out.bel HA1.out)
      have HWR := Aside0.mk (write_calls z0 z1 len0 len1 w.heap.size g1 v1 a1 cap1 wr HK.out.tab HK.out.h1 HTL.out ⟨HK.out.lo1, HK.out.bel.size⟩ HXb.out HN1.out (fun y hy h0 => by have := HA1.out y hy h0; have := HK.out.lo1; omega) (by have := HL1.out; have := HL0.out; omega) HZ0.out HZ1.out)
      go_wp2_with fail
      refine (HWR.out).mono ?_
      rintro e w10 ⟨rfl, v3, hh, hc, hv⟩
      have HK11 := Aside0.mk (HK.out.write1 hh hc hv HTL.out)
      clear hh hc hv HWR HK HXb
      go_wp2_with fail
      refine (write_nil _ _ _ _).mono ?_
      rintro e w11 ⟨rfl, rfl⟩
      obtain ⟨zc, hzc⟩ : ∃ z, z = fun j => if j < len0 then z0 j else z1 (j - len0) := ⟨_, rfl⟩
      have HZC : Aside0 (∀ j, j < len0 + len1 → 0 ≤ zc j ∧ zc j < 256) := ⟨fun j hj => by
        rw [hzc]
        show 0 ≤ (if j < len0 then _ else _) ∧ (if j < len0 then _ else _) < 256
        split
        · exact HZ0.out j (by assumption)
        · exact HZ1.out (j - len0) (by omega)⟩
      rw [← hzc] at HK11
      have HZE := Aside0.mk hzc
      clear hzc
      have HSM := Aside0.mk (sum_calls zc (len0 + len1) w.heap.size g1 v3 w11 HK11.out.tab HK11.out.h1 (by have := HL1.out; have := HL0.out; omega) HZC.out)
      go_wp2_with fail
      refine (HSM.out).mono ?_
      rintro e w12 ⟨rfl, hb⟩
      have HK12 := Aside0.mk (HK11.out.below hb)
      clear hb HSM HK11
      have hs12 := HK12.out.bel.size
      have HO13 := Aside0.mk (OwnS.made (e := 5) (k := .u8) (base := w12.heap.size) w12 0 z0 (Nat.le_refl _) (Nat.zero_le _))
      have HB13 := Aside0.mk (bel_any w12 (.cells (FR .u8 0 z0) 5))
      have hs13 := HB13.out.size
      have HX13 := Aside0.mk (HX0.out.below (HK12.out.below HB13.out).bel HA0.out)
      go_wp2_with (first | (refine step_append HO13.out HX13.out Tryd.underlying22 info8p rfl rfl rfl rfl rfl HN0.out (by have := HL0.out; unfold maxLen; omega) (by have := HL0.out; omega) hs13 ?_; intro v14 w14 ho hg hat _; have ho14 := own_zero ho; obtain ⟨x14, c14, rfl⟩ := ho14.form; have HB14 := Aside0.mk (grown_bel HB13.out hg hs13 (fun b hb => (HO13.out.lt b hb).1)); have hs14 := HB14.out.size; have HX14 := Aside0.mk (HX1.out.below (HK12.out.below HB14.out).bel HA1.out); have HO14 := Aside0.mk ho14; clear ho ho14 hg hat) | (refine step_append HO14.out HX14.out Tryd.underlying22 info8p rfl rfl rfl rfl rfl HN1.out (by have := HL0.out; have := HL1.out; unfold maxLen; omega) (by have := HL0.out; have := HL1.out; omega) hs14 ?_; intro v15 w15 ho hg hat _; obtain ⟨x15, c15, rfl⟩ := ho.form; have HB15 := Aside0.mk (grown_bel HB14.out hg hs14 (fun b hb => (HO14.out.lt b hb).1)); have HO15 := Aside0.mk ho; clear ho hg hat))
      rw [← HZE.out] at HO15
      have HK15 := Aside0.mk (HK12.out.below HB15.out)
      obtain ⟨a15, c16, e15, hn15, hz15⟩ := HO15.out.numsAt
      cases e15
      have HOF := Aside0.mk (of_calls zc _ (len0 + len1) c15 w15 HK15.out.tab hn15 hz15 (by have := HL0.out; have := HL1.out; omega) HZC.out)
      have hq := equal64 (dg zc (len0 + len1)) (dg zc (len0 + len1))
      rw [same_self] at hq
      clear hn15 hz15 HK12 HO13 HB13 HX13 HB14 HX14 HO14 HO15 HB15 hs14 hs13 hs12
      go_wp2_with fail
      refine (HOF.out).mono ?_
      rintro e w16 ⟨rfl, hb⟩
      have HK16 := Aside0.mk (HK15.out.below hb)
      clear hb HOF HK15
      have HSM := Aside0.mk (sum_calls z1 len1 w.heap.size g2 v2 w16 HK16.out.tab HK16.out.h2 (by have := HL1.out; omega) HZ1.out)
      go_wp2_with fail
      refine (HSM.out).mono ?_
      rintro e w17 ⟨rfl, hb⟩
      have HK17 := Aside0.mk (HK16.out.below hb)
      have HX17 := Aside0.mk (HX1.out.below HK17.out.bel HA1.out)
      clear hb HSM HK16
      have HOF := Aside0.mk (of_calls z1 a1 len1 cap1 w17 HK17.out.tab HX17.out HN1.out (by have := HL1.out; omega) HZ1.out)
      have hq2 := equal64 (dg z1 len1) (dg z1 len1)
      rw [same_self] at hq2
      go_wp2_with fail
      refine (HOF.out).mono ?_
      rintro e w18 ⟨rfl, hb⟩
      have HK18 := Aside0.mk (HK17.out.below hb)
      clear hb HOF HK17
      go_wp2_with fail
      refine (sum_nil _).mono ?_
      rintro e w19 ⟨rfl, hb⟩
      have HK19 := Aside0.mk (HK18.out.below hb)
      clear hb HK18
      have hq3 := equal64z
      go_wp2_with fail
      go_ret
      exact ⟨rfl, HK19.out.bel⟩
end Go.Proofs.YtlopmjolahhpnaaDoor.P
