/- quote.Valid, by its walk; the library's decoder and HasPrefix, as functions of lists. -/
import Derived.Test.YtfpgjkaaadnmcaaDoorQb
import Derived.Test.YtfpgjkaaadnmcaaDoorSh
import Derived.Lib.OthersKept
import Derived.Laws.RangeAny
namespace Go.Proofs.YtfpgjkaaadnmcaaDoor.P
set_option linter.unusedVariables false
set_option linter.unusedSimpArgs false
open Go.RowKit Go.Proofs.YtfpgjkaaadnmcaaDoorW.PrintWords Go.Proofs.YtfpgjkaaadnmcaaDoorW.PrintLast Go.Proofs.YtfpgjkaaadnmcaaDoorW.PrintMore
attribute [local go_sem] setCell_drewN
/-- The library's tables of runes. -/
def QT (w : World) : Prop := Lib.Utf8Tabs 0 1 w
theorem QT.lt {w : World} (h : QT w) : 0 < w.heap.size ∧ 1 < w.heap.size :=
  ⟨World.block_lt_of_cell? w _ (h.1 0 (by omega)), World.block_lt_of_cell? w _ (h.2 0 (by omega)).1⟩
theorem QT.keep {w w' : World} {B : Nat} (h : QT w) (hb : Below B w w') (hB : 0 < B ∧ 1 < B) : QT w' :=
  ⟨fun c hc => (World.cell?_of_block (hb.block _ hB.1)).trans (h.1 c hc), fun i hi => ⟨(World.cell?_of_block (hb.block _ hB.2)).trans (h.2 i hi).1, (World.cell?_of_block (hb.block _ hB.2)).trans (h.2 i hi).2⟩⟩
theorem QT.below {w w' : World} (h : QT w) (hb : Below w.heap.size w w') : QT w' := h.keep hb h.lt
theorem decodeGo_rune (s : ByteArray) (hs : 0 < s.size) : Lib.decodeGo s = runeR (rune (bytesOf s)) := by
  unfold Lib.decodeGo
  rw [if_neg (by omega), decode_rune s 0 hs, List.drop_zero]
theorem size_pos {s : ByteArray} (h : bytesOf s ≠ []) : 0 < s.size := by
  rw [← bytesOf_length]; exact List.length_pos_iff.2 h
theorem dec_some (s : ByteArray) (v : Int) (n : Nat) (w : World) (hT : QT w) (h : rune (bytesOf s) = some (v, n)) :
    Calls Tryd.prog 14 #[.string s] w fun e w' => e = .returned (.tuple #[.int .i32 v, .int .i64 n]) ∧ Below w.heap.size w w' := by
  have hv := (rune_some (bs_bytes s) h).1
  have hd := decodeGo_rune s (size_pos (by intro e; rw [e] at h; cases h))
  rw [h] at hd
  have hc := Tryd.utf8_DecodeRuneInString s w hT
  rw [hd] at hc
  simp only [runeR] at hc
  rw [Int.toNat_of_nonneg hv.1] at hc
  exact hc
theorem dec_none (s : ByteArray) (w : World) (hT : QT w) (h0 : bytesOf s ≠ []) (h : rune (bytesOf s) = none) :
    Calls Tryd.prog 14 #[.string s] w fun e w' => e = .returned (.tuple #[.int .i32 65533, .int .i64 1]) ∧ Below w.heap.size w w' := by
  have hd := decodeGo_rune s (size_pos h0)
  rw [h] at hd
  have hc := Tryd.utf8_DecodeRuneInString s w hT
  rw [hd] at hc
  exact hc
theorem hasPrefix_iff (a p : List UInt8) : Lib.hasPrefix a p = decide ((a.map fun b => (b.toNat : Int)).take p.length = p.map fun b => (b.toNat : Int)) := by
  rw [Bool.eq_iff_iff, decide_eq_true_iff]
  unfold Lib.hasPrefix
  rw [List.isPrefixOf_iff_prefix, List.prefix_iff_eq_take, ← List.map_take]
  constructor
  · intro h; rw [← h]
  · intro h
    exact ((List.map_inj_right (fun x y (e : (x.toNat : Int) = (y.toNat : Int)) => UInt8.toNat_inj.1 (by omega))).1 h).symm
theorem prefix_calls (a p : ByteArray) (b : Bool) (w : World) (h : decide ((bytesOf a).take p.size = bytesOf p) = b) :
    Calls Tryd.prog 20 #[.string a, .string p] w fun e w' => e = .returned (.bool b) ∧ w' = w := by
  have hc := Tryd.strings_HasPrefix a p w
  rw [hasPrefix_iff] at hc
  subst h
  have e : p.data.toList.length = p.size := by rw [Array.length_toList]; rfl
  rw [e] at hc
  exact hc
theorem fffd_calls (a : ByteArray) (b : Bool) (w : World) (h : decide ((bytesOf a).take 3 = [239, 191, 189]) = b) :
    Calls Tryd.prog 20 #[.string a, .string ⟨#[239, 191, 189]⟩] w fun e w' => e = .returned (.bool b) ∧ w' = w := prefix_calls a ⟨#[239, 191, 189]⟩ b w h
def ValPost (s : ByteArray) (w : World) (e : Ending) (w' : World) : Prop := e = .returned (.bool (validL (bytesOf s))) ∧ Below w.heap.size w w'
def ValRel (s : ByteArray) (w wr : World) : Prop := ∃ pos : Nat, pos ≤ s.size ∧ validL (bytesOf s) = validL ((bytesOf s).drop pos) ∧ wr.heap[w.heap.size]? = some (.stringIter s pos) ∧ Below w.heap.size w wr
set_option maxRecDepth 100000 in
theorem valid_walk (s : ByteArray) (w : World) (hs : s.size ≤ 140737488351232) : Calls Tryd.prog 11 #[.string s] w (ValPost s w) := by
  go_enter Tryd.func11, Tryd.ntmps11
  go_wp2
  go_loopw [3] (fun v3 wr => ValRel s w wr) (fun _ w' => s.size - w'.iterPos w.heap.size)
  case atStart => exact ⟨0, by omega, rfl, heap_alloc_new w _, (Below.refl _ _).alloc (Nat.le_refl _) _⟩
  case round =>
    obtain ⟨pos, hpos, hd, hit, hbel⟩ := hrel
    have HD := Aside0.mk hd
    have HI := Aside0.mk hit
    have HB := Aside0.mk hbel
    clear hd hit hbel
    by_cases hp : pos < s.size
    · have hnx := fun ty => Lib.run_next_any_at (P := Tryd.prog) wr w.heap.size s pos ty HI.out hp
      have HBs := Aside0.mk ((bs_bytes s).drop pos)
      have hne : (bytesOf s).drop pos ≠ [] := fun e => by have := drop_nil e; rw [bytesOf_length] at this; omega
      have HNE := Aside0.mk hne
      have hle := decode_le s pos
      have hdr := decode_rune s pos hp
      clear hne
      rcases hr : rune ((bytesOf s).drop pos) with _ | ⟨v, n⟩
      · rw [hr] at hdr
        change Utf8.decode s pos = (65533, 1) at hdr
        rw [hdr] at hnx
        have HR := Aside0.mk hr
        clear hr hdr hle
        go_wp2_with fail
        refine (fffd_calls (s.extract pos s.size) false _ ?_).mono ?_
        · rw [decide_eq_false_iff_not, bytes_extract]
          intro hh
          have := rune_fffd hh
          rw [HR.out] at this
          cases this
        rintro e w1 ⟨rfl, rfl⟩
        go_wp2_with fail
        go_ret
        refine ⟨?_, Lib.below_iterAt HB.out (Nat.le_refl _) _ _⟩
        rw [HD.out, validL_none HNE.out HR.out]
        rfl
      · rw [hr] at hdr
        have hn := rune_len HBs.out hr
        have hv := (rune_some HBs.out hr).1
        rw [List.length_drop, bytesOf_length] at hn
        obtain ⟨vn, rfl⟩ : ∃ vn : Nat, v = (vn : Int) := ⟨v.toNat, by unfold validR at hv; omega⟩
        change Utf8.decode s pos = ((vn : Int).toNat, n) at hdr
        rw [Int.toNat_natCast] at hdr
        rw [hdr] at hnx
        have HR := Aside0.mk hr
        have HN := Aside0.mk hn
        have hn1 := hn.1
        have hn2 := hn.2
        clear hr hdr hle hn
        by_cases h3 : vn = 65533
        · subst h3
          go_wp2_with fail
          refine (fffd_calls (s.extract pos s.size) true _ ?_).mono ?_
          · rw [decide_eq_true_iff, bytes_extract]
            exact (fffd_bytes HBs.out HR.out).1
          rintro e w1 ⟨rfl, rfl⟩
          go_wp2_with fail
          have hit1 : (wr.iterAt w.heap.size s (pos + n)).heap[w.heap.size]? = some (.stringIter s (pos + n)) := Lib.iterAt_heap _ _ _ _ _ HI.out
          refine ⟨⟨pos + n, by omega, ?_, hit1, Lib.below_iterAt HB.out (Nat.le_refl _) _ _⟩, ?_⟩
          · rw [HD.out, validL_some HBs.out HR.out, List.drop_drop]
          · rw [iterPos_of hit1, iterPos_of HI.out]; omega
        · have hb0 : ((vn : Int) == 65533) = false := by simp; omega
          have hb1 : ((vn : Int) != 65533) = true := by simp; omega
          go_wp2_with fail
          have hit1 : (wr.iterAt w.heap.size s (pos + n)).heap[w.heap.size]? = some (.stringIter s (pos + n)) := Lib.iterAt_heap _ _ _ _ _ HI.out
          refine ⟨⟨pos + n, by omega, ?_, hit1, Lib.below_iterAt HB.out (Nat.le_refl _) _ _⟩, ?_⟩
          · rw [HD.out, validL_some HBs.out HR.out, List.drop_drop]
          · rw [iterPos_of hit1, iterPos_of HI.out]; omega
    · have hnx := fun ty => Lib.run_next_end_at (P := Tryd.prog) wr w.heap.size s pos ty HI.out hp
      go_wp2_with fail
      go_ret
      refine ⟨?_, HB.out⟩
      have : (bytesOf s).drop pos = [] := List.drop_eq_nil_of_le (by rw [bytesOf_length]; omega)
      rw [HD.out, this]
      rfl
end Go.Proofs.YtfpgjkaaadnmcaaDoor.P
