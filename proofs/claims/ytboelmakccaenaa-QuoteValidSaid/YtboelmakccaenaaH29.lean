/- letters.Decode by its walk. -/
import Derived.Test.YtboelmakccaenaaM3
import Derived.Outline
namespace Go.Proofs.Ytboelmakccaenaa.P
set_option linter.unusedVariables false
open Go.RowKit Go.Proofs.YtboelmakccaenaaW.PrintWords Go.Proofs.YtboelmakccaenaaW.PrintLast Go.Proofs.YtboelmakccaenaaW.PrintMore
def DecPost (u : Bool) (s : ByteArray) (w : World) (e : Ending) (w' : World) : Prop :=
  ∃ v, e = .returned (.tuple #[v, .bool (decL u (bytesOf s)).isSome]) ∧ Kd.R (Kd.int .u8) 5 w' w.heap.size (fun _ => True) v ((decL u (bytesOf s)).getD []) ∧ Below w.heap.size w w'
/-- The relation of the loop. -/
def DecRel (u : Bool) (s : ByteArray) (w : World) (v6 v7 v8 : Value) (wr : World) : Prop :=
  ∃ (pos : Nat) (out : List Int) (h b : Int), pos ≤ s.size ∧ v7 = .int .u64 h ∧ v8 = .int .i64 b ∧ Held h b ∧ decL u (bytesOf s) = decGo u ((bytesOf s).drop pos) out h b ∧ wr.heap[w.heap.size]? = some (.stringIter s pos) ∧
    Kd.R (Kd.int .u8) 5 wr (w.heap.size + 1) (fun _ => True) v6 out ∧ Below w.heap.size w wr ∧ out.length ≤ pos
theorem value_none (u : Bool) (r : Int) (w : World) (h : valOf u r = none) (h0 : 0 ≤ r) (h1 : r ≤ 2147483647) :
    Calls Try.prog 77 #[.int .i32 r, .bool u] w fun e w' => e = .returned (.tuple #[.int .u64 0, .bool false]) ∧ Drawn0 w w' := by
  have := value_calls u r w h0 h1
  rw [h] at this
  exact this
theorem value_some (u : Bool) (r v : Int) (w : World) (h : valOf u r = some v) (h0 : 0 ≤ r) (h1 : r ≤ 2147483647) :
    Calls Try.prog 77 #[.int .i32 r, .bool u] w fun e w' => e = .returned (.tuple #[.int .u64 v, .bool true]) ∧ Drawn0 w w' := by
  have := value_calls u r w h0 h1
  rw [h] at this
  exact this
theorem R_iter {α : Type} {d : Kd α} {e : Nat} {wr : World} {base B : Nat} {ok : Nat → Prop} {v : Value} {xs : List α} {s : ByteArray} {p : Nat} (h : Kd.R d e wr base ok v xs) (hB : B < base) : Kd.R d e (wr.iterAt B s p) base ok v xs :=
  Kd.R_mono (Kd.R_step (Kd.R_bound h) (fun k hk _ => Lib.iterAt_other _ _ _ _ _ (by omega))) (fun k hk => hk.1)
theorem iterPos_of {w : World} {B p : Nat} {s : ByteArray} (h : w.heap[B]? = some (.stringIter s p)) : w.iterPos B = p := by simp [World.iterPos, h]
theorem and_mask (x : Int) (h0 : 0 ≤ x) (h1 : x < 18446744073709551616) (q m : Int) (hq : (q = 1 ∧ m = 0) ∨ (q = 4 ∧ m = 3) ∨ (q = 16 ∧ m = 15)) : Go.bits .and .u64 x m = x % q := by
  rcases hq with ⟨rfl, rfl⟩ | ⟨rfl, rfl⟩ | ⟨rfl, rfl⟩
  · rw [u64_and _ _ h0 h1 (by omega) (by omega)]; simp
  · rw [u64_and _ _ h0 h1 (by omega) (by omega), show (3 : Int).toNat = 3 from rfl, nat_mask2]; omega
  · rw [u64_and _ _ h0 h1 (by omega) (by omega), show (15 : Int).toNat = 15 from rfl, nat_mask4]; omega
set_option maxRecDepth 100000 in
theorem dec_walk (u : Bool) (s : ByteArray) (w : World) (hs : s.size ≤ 140737488351232) : Calls Try.prog 29 #[.string s, .bool u] w (DecPost u s w) := by
  go_enter Try.func29, Try.ntmps29
  go_wp2
  go_loopw [6, 7, 8] (fun v6 v7 v8 wr => DecRel u s w v6 v7 v8 wr) (fun _ _ _ w' => s.size - w'.iterPos w.heap.size)
  case atStart => exact ⟨0, [], 0, 0, by omega, rfl, rfl, .inl ⟨rfl, rfl⟩, rfl, heap_alloc_new w _, Kd.R_nil _ _ _ _ _, (Below.refl _ _).alloc (Nat.le_refl _) _, by simp⟩
  case round =>
    obtain ⟨pos, out, h, b, hpos, rfl, rfl, hh, hd, hit, hown, hbel, hlen⟩ := hrel
    have HH := Aside0.mk hh
    have HD := Aside0.mk hd
    have HI := Aside0.mk hit
    have HO := Aside0.mk hown
    have HB := Aside0.mk hbel
    have HL := Aside0.mk hlen
    clear hh hd hit hown hbel hlen
    by_cases hp : pos < s.size
    · have hnx := fun ty => Lib.run_next_any_at (P := Try.prog) wr w.heap.size s pos ty HI.out hp
      have hle := decode_le s pos
      rcases hv : valOf u (bt s pos) with _ | v
      · have HV := Aside0.mk ((valOf_rune u s pos hp).trans hv)
        have HE := Aside0.mk hv
        clear hv
        go_wp2_with fail
        refine (value_none u _ _ HV.out (by omega) (by omega)).mono ?_
        rintro e w1 ⟨rfl, ⟨n, rfl⟩⟩
        go_wp2_with fail
        go_ret2
        refine ⟨.slice none 0 0, ?_, ?_, ?_⟩
        · rw [HD.out, drop_bytes s pos hp]; simp [decGo, HE.out]
        · rw [HD.out, drop_bytes s pos hp]; simp only [decGo, HE.out]; exact Kd.R_nil _ _ _ _ _
        · exact pw_below_drewN (Lib.below_iterAt HB.out (Nat.le_refl _) _ _) _
      · have HV := Aside0.mk ((valOf_rune u s pos hp).trans hv)
        have HE := Aside0.mk hv
        have h1 := decode_one hp hv
        have hr := valOf_range hv
        have hv0 := hr.1
        have hv1 := hr.2.1
        clear hv hr
        rw [h1] at hnx
        rcases HH.out with ⟨rfl, rfl⟩ | ⟨rfl, hh0, hh1⟩ | ⟨rfl, hh0, hh1⟩ | ⟨rfl, hh0, hh1⟩
        · have hj : Go.bits .or .u64 0 v = v := by
            have := join6 (h := 0) (b := 0) (v := v) (.inl ⟨rfl, rfl⟩) ⟨hv0, hv1⟩
            rw [show IntKind.u64.wrap ((0 : Int) * 64) = 0 from u64_id 0 (by omega) (by omega), show (0 : Int) * 64 + v = v from by omega] at this
            exact this
          go_wp2_with fail
          refine (value_some u _ _ _ HV.out (by omega) (by omega)).mono ?_
          rintro e w1 ⟨rfl, ⟨n, rfl⟩⟩
          go_wp2_with fail
          refine ⟨⟨pos + 1, out, v, 6, by omega, rfl, rfl, .inr (.inr (.inr ⟨rfl, hv0, hv1⟩)), ?_, ?_, ?_, ?_, by have := HL.out; omega⟩, ?_⟩
          · rw [HD.out, drop_bytes s pos hp]; simp [decGo, HE.out]
          · exact Lib.iterAt_heap _ _ _ _ _ HI.out
          · exact Kd.R_drewN (R_iter HO.out (by omega)) _
          · exact pw_below_drewN (Lib.below_iterAt HB.out (Nat.le_refl _) _ _) _
          · rw [iterPos_of (show ((wr.iterAt w.heap.size s (pos + 1)).drewN n).heap[w.heap.size]? = some (.stringIter s (pos + 1)) from Lib.iterAt_heap _ _ _ _ _ HI.out), iterPos_of HI.out]; omega
        · have hj : Go.bits .or .u64 (h * 64) v = h * 64 + v := by have := join6 (h := h) (b := 2) (v := v) (.inr (.inl ⟨rfl, hh0, hh1⟩)) ⟨hv0, hv1⟩; rwa [u64_id _ (by omega) (by omega)] at this
          have hm : Go.bits .and .u64 (h * 64 + v) 0 = (h * 64 + v) % 1 := and_mask (h * 64 + v) (by omega) (by omega) 1 0 (by decide)
          have hsz : w.heap.size < wr.heap.size := (Array.getElem?_eq_some_iff.1 HI.out).1
          go_wp2_with fail
          refine (value_some u _ _ _ HV.out (by omega) (by omega)).mono ?_
          rintro e w1 ⟨rfl, ⟨n, rfl⟩⟩
          go_wp2_with (((with_reducible refine gate_builtin (b := .append) (xs := #[.tmp 36, .tmp 41]) rfl ?_); at_builtin; refine Kd.R_append (Kd.int .u8) (w0 := (wr.iterAt w.heap.size s (pos + 1)).drewN n) (W := (wr.iterAt w.heap.size s (pos + 1)).drewN n) (w.heap.size + 1) rfl (.tmp 36) (.tmp 41) 23 5 (.int .u8 0) 1 rfl Try.underlying23 info5 rfl (by decide) (by omega) u6 out (h * 64 + v) [.int .u8 (h * 64 + v)] (fun _ => True) (fun _ => False) rfl rfl ?aP (fun _ hk => hk.elim) ?aF ?aO (Below.refl _ _) ?aS ?aL ?_; (case aP => exact rfl); (case aF => exact (fun _ _ => trivial)); (case aO => exact Kd.R_drewN (R_iter HO.out (by omega)) _); (case aS => exact (show w.heap.size + 1 ≤ (wr.iterAt w.heap.size s (pos + 1)).heap.size by rw [Lib.iterAt_size]; omega)); (case aL => have := HL.out; omega); intro v1 w1 ho1 hb1 hg1 hat1; have HO1 := Aside0.mk ho1; have HB1 := Aside0.mk hb1; clear ho1 hb1 hg1 hat1))
          have hit1 : w1.heap[w.heap.size]? = some (.stringIter s (pos + 1)) := (HB1.out.block w.heap.size (by omega)).trans (Lib.iterAt_heap _ _ _ _ _ HI.out)
          refine ⟨⟨pos + 1, out ++ [h * 64 + v], 0, 0, by omega, rfl, rfl, .inl ⟨rfl, rfl⟩, ?_, hit1, HO1.out, ?_, by have := HL.out; simp; omega⟩, ?_⟩
          · rw [HD.out, drop_bytes s pos hp]; simp [decGo, HE.out]
          · exact (pw_below_drewN (Lib.below_iterAt HB.out (Nat.le_refl _) s (pos + 1)) n).trans (HB1.out.mono (by omega))
          · rw [iterPos_of hit1, iterPos_of HI.out]; omega
        · have hj : Go.bits .or .u64 (h * 64) v = h * 64 + v := by have := join6 (h := h) (b := 4) (v := v) (.inr (.inr (.inl ⟨rfl, hh0, hh1⟩))) ⟨hv0, hv1⟩; rwa [u64_id _ (by omega) (by omega)] at this
          have hm : Go.bits .and .u64 (h * 64 + v) 3 = (h * 64 + v) % 4 := and_mask (h * 64 + v) (by omega) (by omega) 4 3 (by decide)
          have hsz : w.heap.size < wr.heap.size := (Array.getElem?_eq_some_iff.1 HI.out).1
          go_wp2_with fail
          refine (value_some u _ _ _ HV.out (by omega) (by omega)).mono ?_
          rintro e w1 ⟨rfl, ⟨n, rfl⟩⟩
          go_wp2_with (((with_reducible refine gate_builtin (b := .append) (xs := #[.tmp 36, .tmp 41]) rfl ?_); at_builtin; refine Kd.R_append (Kd.int .u8) (w0 := (wr.iterAt w.heap.size s (pos + 1)).drewN n) (W := (wr.iterAt w.heap.size s (pos + 1)).drewN n) (w.heap.size + 1) rfl (.tmp 36) (.tmp 41) 23 5 (.int .u8 0) 1 rfl Try.underlying23 info5 rfl (by decide) (by omega) u6 out ((h * 64 + v) / 4) [.int .u8 ((h * 64 + v) / 4)] (fun _ => True) (fun _ => False) rfl rfl ?aP (fun _ hk => hk.elim) ?aF ?aO (Below.refl _ _) ?aS ?aL ?_; (case aP => exact rfl); (case aF => exact (fun _ _ => trivial)); (case aO => exact Kd.R_drewN (R_iter HO.out (by omega)) _); (case aS => exact (show w.heap.size + 1 ≤ (wr.iterAt w.heap.size s (pos + 1)).heap.size by rw [Lib.iterAt_size]; omega)); (case aL => have := HL.out; omega); intro v1 w1 ho1 hb1 hg1 hat1; have HO1 := Aside0.mk ho1; have HB1 := Aside0.mk hb1; clear ho1 hb1 hg1 hat1))
          have hit1 : w1.heap[w.heap.size]? = some (.stringIter s (pos + 1)) := (HB1.out.block w.heap.size (by omega)).trans (Lib.iterAt_heap _ _ _ _ _ HI.out)
          refine ⟨⟨pos + 1, out ++ [(h * 64 + v) / 4], (h * 64 + v) % 4, 2, by omega, rfl, rfl, .inr (.inl ⟨rfl, by omega, by omega⟩), ?_, hit1, HO1.out, ?_, by have := HL.out; simp; omega⟩, ?_⟩
          · rw [HD.out, drop_bytes s pos hp]; simp [decGo, HE.out]
          · exact (pw_below_drewN (Lib.below_iterAt HB.out (Nat.le_refl _) s (pos + 1)) n).trans (HB1.out.mono (by omega))
          · rw [iterPos_of hit1, iterPos_of HI.out]; omega
        · have hj : Go.bits .or .u64 (h * 64) v = h * 64 + v := by have := join6 (h := h) (b := 6) (v := v) (.inr (.inr (.inr ⟨rfl, hh0, hh1⟩))) ⟨hv0, hv1⟩; rwa [u64_id _ (by omega) (by omega)] at this
          have hm : Go.bits .and .u64 (h * 64 + v) 15 = (h * 64 + v) % 16 := and_mask (h * 64 + v) (by omega) (by omega) 16 15 (by decide)
          have hsz : w.heap.size < wr.heap.size := (Array.getElem?_eq_some_iff.1 HI.out).1
          go_wp2_with fail
          refine (value_some u _ _ _ HV.out (by omega) (by omega)).mono ?_
          rintro e w1 ⟨rfl, ⟨n, rfl⟩⟩
          go_wp2_with (((with_reducible refine gate_builtin (b := .append) (xs := #[.tmp 36, .tmp 41]) rfl ?_); at_builtin; refine Kd.R_append (Kd.int .u8) (w0 := (wr.iterAt w.heap.size s (pos + 1)).drewN n) (W := (wr.iterAt w.heap.size s (pos + 1)).drewN n) (w.heap.size + 1) rfl (.tmp 36) (.tmp 41) 23 5 (.int .u8 0) 1 rfl Try.underlying23 info5 rfl (by decide) (by omega) u6 out ((h * 64 + v) / 16) [.int .u8 ((h * 64 + v) / 16)] (fun _ => True) (fun _ => False) rfl rfl ?aP (fun _ hk => hk.elim) ?aF ?aO (Below.refl _ _) ?aS ?aL ?_; (case aP => exact rfl); (case aF => exact (fun _ _ => trivial)); (case aO => exact Kd.R_drewN (R_iter HO.out (by omega)) _); (case aS => exact (show w.heap.size + 1 ≤ (wr.iterAt w.heap.size s (pos + 1)).heap.size by rw [Lib.iterAt_size]; omega)); (case aL => have := HL.out; omega); intro v1 w1 ho1 hb1 hg1 hat1; have HO1 := Aside0.mk ho1; have HB1 := Aside0.mk hb1; clear ho1 hb1 hg1 hat1))
          have hit1 : w1.heap[w.heap.size]? = some (.stringIter s (pos + 1)) := (HB1.out.block w.heap.size (by omega)).trans (Lib.iterAt_heap _ _ _ _ _ HI.out)
          refine ⟨⟨pos + 1, out ++ [(h * 64 + v) / 16], (h * 64 + v) % 16, 4, by omega, rfl, rfl, .inr (.inr (.inl ⟨rfl, by omega, by omega⟩)), ?_, hit1, HO1.out, ?_, by have := HL.out; simp; omega⟩, ?_⟩
          · rw [HD.out, drop_bytes s pos hp]; simp [decGo, HE.out]
          · exact (pw_below_drewN (Lib.below_iterAt HB.out (Nat.le_refl _) s (pos + 1)) n).trans (HB1.out.mono (by omega))
          · rw [iterPos_of hit1, iterPos_of HI.out]; omega
    · have hnx := fun ty => Lib.run_next_end_at (P := Try.prog) wr w.heap.size s pos ty HI.out hp
      have hnil : (bytesOf s).drop pos = [] := List.drop_eq_nil_of_le (by rw [bytesOf_length]; omega)
      have HD2 := Aside0.mk (HD.out.trans (by rw [hnil]))
      clear hnil
      by_cases h6 : 6 ≤ b
      · have HZ : Aside0 (decL u (bytesOf s) = none) := ⟨by rw [HD2.out]; simp [decGo, h6]⟩
        go_wp2_with fail
        go_ret2
        refine ⟨.slice none 0 0, ?_, ?_, ?_⟩
        · rw [HZ.out]; rfl
        · rw [HZ.out]; exact Kd.R_nil _ _ _ _ _
        · exact HB.out
      · by_cases h0 : h = 0
        · subst h0
          have HZ : Aside0 (decL u (bytesOf s) = some out) := ⟨by rw [HD2.out]; simp [decGo]; omega⟩
          go_wp2_with fail
          go_ret2
          refine ⟨u6, ?_, ?_, ?_⟩
          · rw [HZ.out]; rfl
          · rw [HZ.out]; exact Kd.R_lower HO.out (by omega)
          · exact HB.out
        · have HZ : Aside0 (decL u (bytesOf s) = none) := ⟨by rw [HD2.out]; simp [decGo, h0]⟩
          have hz0 : (h == 0) = false := by simp [h0]
          have hz1 : (h != 0) = true := by simp [h0]
          go_wp2_with fail
          go_ret2
          refine ⟨.slice none 0 0, ?_, ?_, ?_⟩
          · rw [HZ.out]; rfl
          · rw [HZ.out]; exact Kd.R_nil _ _ _ _ _
          · exact HB.out
/-- The same, in the printer's form. -/
def letters_Decode.f (a0 : ByteArray) (a1 : Bool) : Option (List Int × Bool) := if a0.size ≤ 140737488351232 then some ((decL a1 (bytesOf a0)).getD [], (decL a1 (bytesOf a0)).isSome) else none
theorem letters_Decode.calls (a0 : ByteArray) (a1 : Bool) (r1 : List Int) (r2 : Bool) (w : World) (h : letters_Decode.f a0 a1 = some (r1, r2)) :
    Calls Try.prog 29 #[.string a0, .bool a1] w fun e w' => ∃ v0_ : Value, e = .returned (.tuple #[v0_, .bool r2]) ∧ Kd.R (Kd.int .u8) 5 w' w.heap.size (fun _ => True) v0_ r1 ∧ Below w.heap.size w w' := by
  unfold letters_Decode.f at h
  split at h
  · rename_i hs
    injection h with h
    injection h with h1 h2
    subst h1
    subst h2
    exact dec_walk a1 a0 w hs
  · cases h
end Go.Proofs.Ytboelmakccaenaa.P
