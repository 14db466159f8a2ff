/- Texts H22 of this session, in one (wip/tools/merge.py). -/
import Derived.Test.YtboelmakccaenaaU2
import Derived.Test.YtboelmakccaenaaU1
namespace Go.Proofs.Ytboelmakccaenaa.P
section
set_option linter.unusedVariables false
open Go.RowKit Go.Proofs.YtboelmakccaenaaW.PrintWords Go.Proofs.YtboelmakccaenaaW.PrintLast Go.Proofs.YtboelmakccaenaaW.PrintMore
def ValPost (s : ByteArray) (w : World) (e : Ending) (w' : World) : Prop := e = .returned (.bool (validL (bytesOf s))) ∧ Below w.heap.size w w'
def ValRel (s : ByteArray) (w wr : World) : Prop := ∃ pos : Nat, pos ≤ s.size ∧ validL (bytesOf s) = validL ((bytesOf s).drop pos) ∧ wr.heap[w.heap.size]? = some (.stringIter s pos) ∧ Below w.heap.size w wr
theorem prefix_calls (a : ByteArray) (b : Bool) (w : World) (h : decide ((bytesOf a).take 3 = [239, 191, 189]) = b) :
    Calls Try.prog 65 #[.string a, .string ⟨#[239, 191, 189]⟩] w fun e w' => e = .returned (.bool b) ∧ Drawn0 w w' := by
  refine strings_HasPrefix.calls a ⟨#[239, 191, 189]⟩ b w ?_
  rw [prefix_f, ← h]
  rfl
set_option maxRecDepth 100000 in
theorem valid_walk (s : ByteArray) (w : World) (hs : s.size ≤ 140737488351232) : Calls Try.prog 22 #[.string s] w (ValPost s w) := by
  go_enter Try.func22, Try.ntmps22
  go_wp2
  go_loopw [3] (fun v3 wr => ValRel s w wr) (fun _ w' => s.size - w'.iterPos w.heap.size)
  case atStart => exact ⟨0, by omega, rfl, heap_alloc_new w _, (Below.refl _ _).alloc (Nat.le_refl _) _⟩
  case round =>
    obtain ⟨pos, hpos, hd, hit, hbel⟩ := hrel
    have HD := Aside0.mk hd
    have HI := Aside0.mk hit
    have HB := Aside0.mk hbel
    clear hd hit hbel
    by_cases hp : pos < s.size
    · have hnx := fun ty => Lib.run_next_any_at (P := Try.prog) wr w.heap.size s pos ty HI.out hp
      have HBs := Aside0.mk ((bs_bytes s).drop pos)
      have hne : (bytesOf s).drop pos ≠ [] := fun e => by have := drop_nil e; rw [bytesOf_length] at this; omega
      have HNE := Aside0.mk hne
      have hle := decode_le s pos
      have hdr := decode_rune s pos hp
      clear hne
      rcases hr : rune ((bytesOf s).drop pos) with _ | ⟨v, n⟩
      · rw [hr] at hdr
        change Utf8.decode s pos = (65533, 1) at hdr
        rw [hdr] at hnx
        have HR := Aside0.mk hr
        clear hr hdr hle
        go_wp2_with fail
        refine (prefix_calls (s.extract pos s.size) false _ ?_).mono ?_
        · rw [decide_eq_false_iff_not, bytes_extract]
          intro hh
          have := rune_fffd hh
          rw [HR.out] at this
          cases this
        rintro e w1 ⟨rfl, ⟨m, rfl⟩⟩
        go_wp2_with fail
        go_ret
        refine ⟨?_, pw_below_drewN (Lib.below_iterAt HB.out (Nat.le_refl _) _ _) _⟩
        rw [HD.out, validL_none HNE.out HR.out]
        rfl
      · rw [hr] at hdr
        have hn := rune_len HBs.out hr
        have hv := (rune_some HBs.out hr).1
        rw [List.length_drop, bytesOf_length] at hn
        obtain ⟨vn, rfl⟩ : ∃ vn : Nat, v = (vn : Int) := ⟨v.toNat, by unfold validR at hv; omega⟩
        change Utf8.decode s pos = ((vn : Int).toNat, n) at hdr
        rw [Int.toNat_natCast] at hdr
        rw [hdr] at hnx
        have HR := Aside0.mk hr
        have HN := Aside0.mk hn
        have hn1 := hn.1
        have hn2 := hn.2
        clear hr hdr hle hn
        by_cases h3 : vn = 65533
        · subst h3
          go_wp2_with fail
          refine (prefix_calls (s.extract pos s.size) true _ ?_).mono ?_
          · rw [decide_eq_true_iff, bytes_extract]
            exact (fffd_bytes HBs.out HR.out).1
          rintro e w1 ⟨rfl, ⟨m, rfl⟩⟩
          go_wp2_with fail
          have hit1 : ((wr.iterAt w.heap.size s (pos + n)).drewN m).heap[w.heap.size]? = some (.stringIter s (pos + n)) := Lib.iterAt_heap _ _ _ _ _ HI.out
          refine ⟨⟨pos + n, by omega, ?_, hit1, pw_below_drewN (Lib.below_iterAt HB.out (Nat.le_refl _) _ _) _⟩, ?_⟩
          · rw [HD.out, validL_some HBs.out HR.out, List.drop_drop]
          · rw [iterPos_of hit1, iterPos_of HI.out]; omega
        · have hb0 : ((vn : Int) == 65533) = false := by simp; omega
          have hb1 : ((vn : Int) != 65533) = true := by simp; omega
          go_wp2_with fail
          have hit1 : (wr.iterAt w.heap.size s (pos + n)).heap[w.heap.size]? = some (.stringIter s (pos + n)) := Lib.iterAt_heap _ _ _ _ _ HI.out
          refine ⟨⟨pos + n, by omega, ?_, hit1, Lib.below_iterAt HB.out (Nat.le_refl _) _ _⟩, ?_⟩
          · rw [HD.out, validL_some HBs.out HR.out, List.drop_drop]
          · rw [iterPos_of hit1, iterPos_of HI.out]; omega
    · have hnx := fun ty => Lib.run_next_end_at (P := Try.prog) wr w.heap.size s pos ty HI.out hp
      go_wp2_with fail
      go_ret
      refine ⟨?_, HB.out⟩
      have : (bytesOf s).drop pos = [] := List.drop_eq_nil_of_le (by rw [bytesOf_length]; omega)
      rw [HD.out, this]
      rfl
/-- The same, in the printer's form. -/
def quote_Valid.f (a0 : ByteArray) : Option Bool := if a0.size ≤ 140737488351232 then some (validL (bytesOf a0)) else none
theorem quote_Valid.calls (a0 : ByteArray) (r : Bool) (w : World) (h : quote_Valid.f a0 = some r) : Calls Try.prog 22 #[.string a0] w fun e w' => e = .returned (.bool r) ∧ Below w.heap.size w w' := by
  unfold quote_Valid.f at h
  split at h
  · rename_i hs
    injection h with h
    subst h
    exact valid_walk a0 w hs
  · cases h
end
end Go.Proofs.Ytboelmakccaenaa.P
