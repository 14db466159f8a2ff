/- Texts N1, N2, N3 of this session, in one (wip/tools/merge.py). -/
import Derived.Test.YtboelmakccaenaaU2
import Derived.Test.YtboelmakccaenaaG75
import Derived.Test.YtboelmakccaenaaU1
import Derived.Lib.Bytealg
namespace Go.Proofs.Ytboelmakccaenaa.P
section
set_option linter.unusedVariables false
open Go.RowKit Go.Proofs.YtboelmakccaenaaW.PrintWords Go.Proofs.YtboelmakccaenaaW.PrintLast Go.Proofs.YtboelmakccaenaaW.PrintMore
def kSmall (r : Int) : Bool := decide (97 ≤ r) && decide (r ≤ 122)
def kGreat (r : Int) : Bool := decide (65 ≤ r) && decide (r ≤ 90)
def kDigit (r : Int) : Bool := decide (48 ≤ r) && decide (r ≤ 57)
theorem kSmall_calls (r : Int) (w : World) : Calls Try.prog 73 #[.int .i32 r] w fun e w' => e = .returned (.bool (kSmall r)) ∧ Drawn0 w w' := by
  unfold kSmall
  cases h1 : decide (97 ≤ r) <;> cases h2 : decide (r ≤ 122) <;> (
    go_enter Try.func73, Try.ntmps73
    go_wp2
    go_ret
    exact ⟨by first | rfl | (simp; done) | (simp [*]; done), by repeat (first | exact Drawn0.refl _ | apply Drawn0.step)⟩)
theorem kGreat_calls (r : Int) (w : World) : Calls Try.prog 74 #[.int .i32 r] w fun e w' => e = .returned (.bool (kGreat r)) ∧ Drawn0 w w' := by
  unfold kGreat
  cases h1 : decide (65 ≤ r) <;> cases h2 : decide (r ≤ 90) <;> (
    go_enter Try.func74, Try.ntmps74
    go_wp2
    go_ret
    exact ⟨by first | rfl | (simp; done) | (simp [*]; done), by repeat (first | exact Drawn0.refl _ | apply Drawn0.step)⟩)
theorem kDigit_calls (r : Int) (w : World) : Calls Try.prog 75 #[.int .i32 r] w fun e w' => e = .returned (.bool (kDigit r)) ∧ Drawn0 w w' := by
  unfold kDigit
  cases h1 : decide (48 ≤ r) <;> cases h2 : decide (r ≤ 57) <;> (
    go_enter Try.func75, Try.ntmps75
    go_wp2
    go_ret
    exact ⟨by first | rfl | (simp; done) | (simp [*]; done), by repeat (first | exact Drawn0.refl _ | apply Drawn0.step)⟩)
def kKey (r : Int) : Bool := kSmall r || kGreat r || kDigit r || (r == 95)
theorem kKey_calls (r : Int) (w : World) : Calls Try.prog 72 #[.int .i32 r] w fun e w' => e = .returned (.bool (kKey r)) ∧ Drawn0 w w' := by
  unfold kKey
  cases h0 : kSmall r <;> cases h1 : kGreat r <;> cases h2 : kDigit r <;> cases g0 : (r == 95) <;> (
    go_enter Try.func72, Try.ntmps72
    go_wp2_with (first | (go_at_call 73; refine (kSmall_calls r _).mono ?_; rintro e w1 ⟨rfl, ⟨m1, rfl⟩⟩; rw [h0]) | (go_at_call 74; refine (kGreat_calls r _).mono ?_; rintro e w1 ⟨rfl, ⟨m1, rfl⟩⟩; rw [h1]) | (go_at_call 75; refine (kDigit_calls r _).mono ?_; rintro e w1 ⟨rfl, ⟨m1, rfl⟩⟩; rw [h2]))
    go_ret
    exact ⟨by first | rfl | (simp; done) | (simp [*]; done), by repeat (first | exact Drawn0.refl _ | apply Drawn0.step)⟩)
def kHost (r : Int) : Bool := kSmall r || kDigit r || (r == 46) || (r == 45)
theorem kHost_calls (r : Int) (w : World) : Calls Try.prog 81 #[.int .i32 r] w fun e w' => e = .returned (.bool (kHost r)) ∧ Drawn0 w w' := by
  unfold kHost
  cases h0 : kSmall r <;> cases h1 : kDigit r <;> cases g0 : (r == 46) <;> cases g1 : (r == 45) <;> (
    go_enter Try.func81, Try.ntmps81
    go_wp2_with (first | (go_at_call 73; refine (kSmall_calls r _).mono ?_; rintro e w1 ⟨rfl, ⟨m1, rfl⟩⟩; rw [h0]) | (go_at_call 75; refine (kDigit_calls r _).mono ?_; rintro e w1 ⟨rfl, ⟨m1, rfl⟩⟩; rw [h1]))
    go_ret
    exact ⟨by first | rfl | (simp; done) | (simp [*]; done), by repeat (first | exact Drawn0.refl _ | apply Drawn0.step)⟩)
def kRoom (r : Int) : Bool := kSmall r || kGreat r || kDigit r || (r == 95) || (r == 45)
theorem kRoom_calls (r : Int) (w : World) : Calls Try.prog 84 #[.int .i32 r] w fun e w' => e = .returned (.bool (kRoom r)) ∧ Drawn0 w w' := by
  unfold kRoom
  cases h0 : kSmall r <;> cases h1 : kGreat r <;> cases h2 : kDigit r <;> cases g0 : (r == 95) <;> cases g1 : (r == 45) <;> (
    go_enter Try.func84, Try.ntmps84
    go_wp2_with (first | (go_at_call 73; refine (kSmall_calls r _).mono ?_; rintro e w1 ⟨rfl, ⟨m1, rfl⟩⟩; rw [h0]) | (go_at_call 74; refine (kGreat_calls r _).mono ?_; rintro e w1 ⟨rfl, ⟨m1, rfl⟩⟩; rw [h1]) | (go_at_call 75; refine (kDigit_calls r _).mono ?_; rintro e w1 ⟨rfl, ⟨m1, rfl⟩⟩; rw [h2]))
    go_ret
    exact ⟨by first | rfl | (simp; done) | (simp [*]; done), by repeat (first | exact Drawn0.refl _ | apply Drawn0.step)⟩)
end
section
set_option linter.unusedVariables false
open Go.RowKit Go.Proofs.YtboelmakccaenaaW.PrintWords Go.Proofs.YtboelmakccaenaaW.PrintLast Go.Proofs.YtboelmakccaenaaW.PrintMore
/-- What all answers: one byte or more, all of the kind. -/
def allL (p : Int → Bool) (l : List Int) : Bool := l.all p && !l.isEmpty
def AllPost (p : Int → Bool) (s : ByteArray) (w : World) (e : Ending) (w' : World) : Prop := e = .returned (.bool (allL p (bytesOf s))) ∧ Below w.heap.size w w'
def AllRel (p : Int → Bool) (s : ByteArray) (w wr : World) : Prop := ∃ pos : Nat, pos ≤ s.size ∧ (bytesOf s).all p = ((bytesOf s).drop pos).all p ∧ wr.heap[w.heap.size]? = some (.stringIter s pos) ∧ Below w.heap.size w wr
theorem rune_low {c : Int} {t : List Int} (h : c < 128) : rune (c :: t) = some (c, 1) := by
  simp only [rune]; rw [if_pos h]
theorem rune_high {l : List Int} {v : Int} {n : Nat} (hB : Bs l) (h : rune l = some (v, n)) (hv : 128 ≤ v) : ∃ c t, l = c :: t ∧ 128 ≤ c := by
  cases l with
  | nil => simp [rune] at h
  | cons c t =>
    refine ⟨c, t, rfl, ?_⟩
    by_cases hc : c < 128
    · rw [rune_low hc] at h
      injection h with h
      injection h with h1 h2
      omega
    · omega
theorem all_false {p : Int → Bool} (hp : ∀ r, 128 ≤ r → p r = false) {l : List Int} {c : Int} {t : List Int} (e : l = c :: t) (hc : 128 ≤ c) : l.all p = false := by
  rw [e, List.all_cons, hp c hc]; rfl
theorem none_high {l : List Int} (h0 : l ≠ []) (h : rune l = none) : ∃ c t, l = c :: t ∧ 128 ≤ c := by
  cases l with
  | nil => exact absurd rfl h0
  | cons c t =>
    refine ⟨c, t, rfl, ?_⟩
    by_cases hc : c < 128
    · rw [rune_low hc] at h; cases h
    · omega
theorem low_head {l : List Int} {v : Int} {n : Nat} (hB : Bs l) (h : rune l = some (v, n)) (hv : v < 128) : l = v :: l.drop 1 ∧ n = 1 := by
  obtain ⟨hv1, hl, hn⟩ := rune_some hB h
  have e : encR v = [v] := by unfold encR; rw [if_pos hv]
  rw [e] at hl hn
  simp at hn
  subst hn
  exact ⟨hl, rfl⟩
theorem size_isEmpty (s : ByteArray) : (bytesOf s).isEmpty = decide (s.size = 0) := by
  rw [← bytesOf_length]
  cases bytesOf s <;> simp
theorem toList_isEmpty (s : ByteArray) : s.toList.isEmpty = decide (s.size = 0) := by
  rw [Lib.toList_data]
  have : s.size = s.data.toList.length := Array.length_toList.symm
  rw [this]
  cases s.data.toList <;> simp
set_option linter.unusedSimpArgs false
set_option maxRecDepth 100000 in
theorem all72_walk (hp : ∀ r, 128 ≤ r → kKey r = false) (s : ByteArray) (w : World) (hs : s.size ≤ 140737488351232) : Calls Try.prog 71 #[.string s, .func (.func 72) #[] #[]] w (AllPost kKey s w) := by
  go_enter Try.func71, Try.ntmps71
  go_wp2
  go_loopw [6] (fun v6 wr => AllRel kKey s w wr) (fun _ w' => s.size - w'.iterPos w.heap.size)
  case atStart => exact ⟨0, by omega, rfl, heap_alloc_new w _, (Below.refl _ _).alloc (Nat.le_refl _) _⟩
  case round =>
    obtain ⟨pos, hpos, hd, hit, hbel⟩ := hrel
    have HD := Aside0.mk hd
    have HI := Aside0.mk hit
    have HB := Aside0.mk hbel
    have HP := Aside0.mk hp
    clear hd hit hbel hp
    by_cases hlt : pos < s.size
    · have hnx := fun ty => Lib.run_next_any_at (P := Try.prog) wr w.heap.size s pos ty HI.out hlt
      have HBs := Aside0.mk ((bs_bytes s).drop pos)
      have hne : (bytesOf s).drop pos ≠ [] := fun e => by have := drop_nil e; rw [bytesOf_length] at this; omega
      have HNE := Aside0.mk hne
      have hdr := decode_rune s pos hlt
      clear hne
      rcases hr : rune ((bytesOf s).drop pos) with _ | ⟨v, n⟩
      · rw [hr] at hdr
        change Utf8.decode s pos = (65533, 1) at hdr
        rw [hdr] at hnx
        have HR := Aside0.mk hr
        clear hr hdr
        go_wp2_with fail
        refine (kKey_calls _ _).mono ?_
        rintro e w1 ⟨rfl, ⟨m, rfl⟩⟩
        have hk : kKey (65533 : Int) = false := HP.out _ (by omega)
        go_wp2_with fail
        go_ret
        refine ⟨?_, pw_below_drewN (Lib.below_iterAt HB.out (Nat.le_refl _) _ _) _⟩
        obtain ⟨c, t, e1, e2⟩ := none_high HNE.out HR.out
        unfold allL
        rw [HD.out, all_false HP.out e1 e2]
        rfl
      · rw [hr] at hdr
        have hn := rune_len HBs.out hr
        have hv := (rune_some HBs.out hr).1
        rw [List.length_drop, bytesOf_length] at hn
        obtain ⟨vn, rfl⟩ : ∃ vn : Nat, v = (vn : Int) := ⟨v.toNat, by unfold validR at hv; omega⟩
        change Utf8.decode s pos = ((vn : Int).toNat, n) at hdr
        rw [Int.toNat_natCast] at hdr
        rw [hdr] at hnx
        have HR := Aside0.mk hr
        have hn1 := hn.1
        have hn2 := hn.2
        clear hr hdr hn
        cases hk : kKey (vn : Int)
        · go_wp2_with fail
          refine (kKey_calls _ _).mono ?_
          rintro e w1 ⟨rfl, ⟨m, rfl⟩⟩
          go_wp2_with fail
          go_ret
          refine ⟨?_, pw_below_drewN (Lib.below_iterAt HB.out (Nat.le_refl _) _ _) _⟩
          unfold allL
          rw [HD.out]
          by_cases hv2 : (vn : Int) < 128
          · rw [(low_head HBs.out HR.out hv2).1, List.all_cons, hk]; rfl
          · obtain ⟨c, t, e1, e2⟩ := rune_high HBs.out HR.out (by omega)
            rw [all_false HP.out e1 e2]; rfl
        · have hv2 : (vn : Int) < 128 := by
            by_cases h : (vn : Int) < 128
            · exact h
            · rw [HP.out _ (by omega)] at hk; cases hk
          have HL := Aside0.mk (low_head HBs.out HR.out hv2)
          clear hv2
          go_wp2_with fail
          refine (kKey_calls _ _).mono ?_
          rintro e w1 ⟨rfl, ⟨m, rfl⟩⟩
          go_wp2_with fail
          have hit1 : ((wr.iterAt w.heap.size s (pos + n)).drewN m).heap[w.heap.size]? = some (.stringIter s (pos + n)) := Lib.iterAt_heap _ _ _ _ _ HI.out
          refine ⟨⟨pos + n, by omega, ?_, hit1, pw_below_drewN (Lib.below_iterAt HB.out (Nat.le_refl _) _ _) _⟩, ?_⟩
          · rw [HD.out, HL.out.1, List.all_cons, hk, HL.out.2, List.drop_drop, Bool.true_and]
          · rw [iterPos_of hit1, iterPos_of HI.out]; omega
    · have hnx := fun ty => Lib.run_next_end_at (P := Try.prog) wr w.heap.size s pos ty HI.out hlt
      have h0 : (bytesOf s).all kKey = true := by
        rw [HD.out, List.drop_eq_nil_of_le (by rw [bytesOf_length]; omega)]; rfl
      have H0 := Aside0.mk h0
      clear h0
      go_wp2_with fail
      go_ret
      refine ⟨?_, HB.out⟩
      unfold allL
      rw [H0.out, size_isEmpty]
      have : (true && !decide (s.size = 0)) = !s.toList.isEmpty := by rw [toList_isEmpty]; rfl
      rw [this]
      rfl
theorem all72_calls (s : ByteArray) (w : World) (hs : s.size ≤ 140737488351232) : Calls Try.prog 71 #[.string s, .func (.func 72) #[] #[]] w (fun e w' => e = .returned (.bool (allL kKey (bytesOf s))) ∧ Below w.heap.size w w') :=
  all72_walk (by intro r hr; unfold kKey; simp [kSmall, kGreat, kDigit]; omega) s w hs
set_option linter.unusedSimpArgs false
set_option maxRecDepth 100000 in
theorem all75_walk (hp : ∀ r, 128 ≤ r → kDigit r = false) (s : ByteArray) (w : World) (hs : s.size ≤ 140737488351232) : Calls Try.prog 71 #[.string s, .func (.func 75) #[] #[]] w (AllPost kDigit s w) := by
  go_enter Try.func71, Try.ntmps71
  go_wp2
  go_loopw [6] (fun v6 wr => AllRel kDigit s w wr) (fun _ w' => s.size - w'.iterPos w.heap.size)
  case atStart => exact ⟨0, by omega, rfl, heap_alloc_new w _, (Below.refl _ _).alloc (Nat.le_refl _) _⟩
  case round =>
    obtain ⟨pos, hpos, hd, hit, hbel⟩ := hrel
    have HD := Aside0.mk hd
    have HI := Aside0.mk hit
    have HB := Aside0.mk hbel
    have HP := Aside0.mk hp
    clear hd hit hbel hp
    by_cases hlt : pos < s.size
    · have hnx := fun ty => Lib.run_next_any_at (P := Try.prog) wr w.heap.size s pos ty HI.out hlt
      have HBs := Aside0.mk ((bs_bytes s).drop pos)
      have hne : (bytesOf s).drop pos ≠ [] := fun e => by have := drop_nil e; rw [bytesOf_length] at this; omega
      have HNE := Aside0.mk hne
      have hdr := decode_rune s pos hlt
      clear hne
      rcases hr : rune ((bytesOf s).drop pos) with _ | ⟨v, n⟩
      · rw [hr] at hdr
        change Utf8.decode s pos = (65533, 1) at hdr
        rw [hdr] at hnx
        have HR := Aside0.mk hr
        clear hr hdr
        go_wp2_with fail
        refine (kDigit_calls _ _).mono ?_
        rintro e w1 ⟨rfl, ⟨m, rfl⟩⟩
        have hk : kDigit (65533 : Int) = false := HP.out _ (by omega)
        go_wp2_with fail
        go_ret
        refine ⟨?_, pw_below_drewN (Lib.below_iterAt HB.out (Nat.le_refl _) _ _) _⟩
        obtain ⟨c, t, e1, e2⟩ := none_high HNE.out HR.out
        unfold allL
        rw [HD.out, all_false HP.out e1 e2]
        rfl
      · rw [hr] at hdr
        have hn := rune_len HBs.out hr
        have hv := (rune_some HBs.out hr).1
        rw [List.length_drop, bytesOf_length] at hn
        obtain ⟨vn, rfl⟩ : ∃ vn : Nat, v = (vn : Int) := ⟨v.toNat, by unfold validR at hv; omega⟩
        change Utf8.decode s pos = ((vn : Int).toNat, n) at hdr
        rw [Int.toNat_natCast] at hdr
        rw [hdr] at hnx
        have HR := Aside0.mk hr
        have hn1 := hn.1
        have hn2 := hn.2
        clear hr hdr hn
        cases hk : kDigit (vn : Int)
        · go_wp2_with fail
          refine (kDigit_calls _ _).mono ?_
          rintro e w1 ⟨rfl, ⟨m, rfl⟩⟩
          go_wp2_with fail
          go_ret
          refine ⟨?_, pw_below_drewN (Lib.below_iterAt HB.out (Nat.le_refl _) _ _) _⟩
          unfold allL
          rw [HD.out]
          by_cases hv2 : (vn : Int) < 128
          · rw [(low_head HBs.out HR.out hv2).1, List.all_cons, hk]; rfl
          · obtain ⟨c, t, e1, e2⟩ := rune_high HBs.out HR.out (by omega)
            rw [all_false HP.out e1 e2]; rfl
        · have hv2 : (vn : Int) < 128 := by
            by_cases h : (vn : Int) < 128
            · exact h
            · rw [HP.out _ (by omega)] at hk; cases hk
          have HL := Aside0.mk (low_head HBs.out HR.out hv2)
          clear hv2
          go_wp2_with fail
          refine (kDigit_calls _ _).mono ?_
          rintro e w1 ⟨rfl, ⟨m, rfl⟩⟩
          go_wp2_with fail
          have hit1 : ((wr.iterAt w.heap.size s (pos + n)).drewN m).heap[w.heap.size]? = some (.stringIter s (pos + n)) := Lib.iterAt_heap _ _ _ _ _ HI.out
          refine ⟨⟨pos + n, by omega, ?_, hit1, pw_below_drewN (Lib.below_iterAt HB.out (Nat.le_refl _) _ _) _⟩, ?_⟩
          · rw [HD.out, HL.out.1, List.all_cons, hk, HL.out.2, List.drop_drop, Bool.true_and]
          · rw [iterPos_of hit1, iterPos_of HI.out]; omega
    · have hnx := fun ty => Lib.run_next_end_at (P := Try.prog) wr w.heap.size s pos ty HI.out hlt
      have h0 : (bytesOf s).all kDigit = true := by
        rw [HD.out, List.drop_eq_nil_of_le (by rw [bytesOf_length]; omega)]; rfl
      have H0 := Aside0.mk h0
      clear h0
      go_wp2_with fail
      go_ret
      refine ⟨?_, HB.out⟩
      unfold allL
      rw [H0.out, size_isEmpty]
      have : (true && !decide (s.size = 0)) = !s.toList.isEmpty := by rw [toList_isEmpty]; rfl
      rw [this]
      rfl
theorem all75_calls (s : ByteArray) (w : World) (hs : s.size ≤ 140737488351232) : Calls Try.prog 71 #[.string s, .func (.func 75) #[] #[]] w (fun e w' => e = .returned (.bool (allL kDigit (bytesOf s))) ∧ Below w.heap.size w w') :=
  all75_walk (by intro r hr; unfold kDigit; simp [kSmall, kGreat, kDigit]; omega) s w hs
set_option linter.unusedSimpArgs false
set_option maxRecDepth 100000 in
theorem all81_walk (hp : ∀ r, 128 ≤ r → kHost r = false) (s : ByteArray) (w : World) (hs : s.size ≤ 140737488351232) : Calls Try.prog 71 #[.string s, .func (.func 81) #[] #[]] w (AllPost kHost s w) := by
  go_enter Try.func71, Try.ntmps71
  go_wp2
  go_loopw [6] (fun v6 wr => AllRel kHost s w wr) (fun _ w' => s.size - w'.iterPos w.heap.size)
  case atStart => exact ⟨0, by omega, rfl, heap_alloc_new w _, (Below.refl _ _).alloc (Nat.le_refl _) _⟩
  case round =>
    obtain ⟨pos, hpos, hd, hit, hbel⟩ := hrel
    have HD := Aside0.mk hd
    have HI := Aside0.mk hit
    have HB := Aside0.mk hbel
    have HP := Aside0.mk hp
    clear hd hit hbel hp
    by_cases hlt : pos < s.size
    · have hnx := fun ty => Lib.run_next_any_at (P := Try.prog) wr w.heap.size s pos ty HI.out hlt
      have HBs := Aside0.mk ((bs_bytes s).drop pos)
      have hne : (bytesOf s).drop pos ≠ [] := fun e => by have := drop_nil e; rw [bytesOf_length] at this; omega
      have HNE := Aside0.mk hne
      have hdr := decode_rune s pos hlt
      clear hne
      rcases hr : rune ((bytesOf s).drop pos) with _ | ⟨v, n⟩
      · rw [hr] at hdr
        change Utf8.decode s pos = (65533, 1) at hdr
        rw [hdr] at hnx
        have HR := Aside0.mk hr
        clear hr hdr
        go_wp2_with fail
        refine (kHost_calls _ _).mono ?_
        rintro e w1 ⟨rfl, ⟨m, rfl⟩⟩
        have hk : kHost (65533 : Int) = false := HP.out _ (by omega)
        go_wp2_with fail
        go_ret
        refine ⟨?_, pw_below_drewN (Lib.below_iterAt HB.out (Nat.le_refl _) _ _) _⟩
        obtain ⟨c, t, e1, e2⟩ := none_high HNE.out HR.out
        unfold allL
        rw [HD.out, all_false HP.out e1 e2]
        rfl
      · rw [hr] at hdr
        have hn := rune_len HBs.out hr
        have hv := (rune_some HBs.out hr).1
        rw [List.length_drop, bytesOf_length] at hn
        obtain ⟨vn, rfl⟩ : ∃ vn : Nat, v = (vn : Int) := ⟨v.toNat, by unfold validR at hv; omega⟩
        change Utf8.decode s pos = ((vn : Int).toNat, n) at hdr
        rw [Int.toNat_natCast] at hdr
        rw [hdr] at hnx
        have HR := Aside0.mk hr
        have hn1 := hn.1
        have hn2 := hn.2
        clear hr hdr hn
        cases hk : kHost (vn : Int)
        · go_wp2_with fail
          refine (kHost_calls _ _).mono ?_
          rintro e w1 ⟨rfl, ⟨m, rfl⟩⟩
          go_wp2_with fail
          go_ret
          refine ⟨?_, pw_below_drewN (Lib.below_iterAt HB.out (Nat.le_refl _) _ _) _⟩
          unfold allL
          rw [HD.out]
          by_cases hv2 : (vn : Int) < 128
          · rw [(low_head HBs.out HR.out hv2).1, List.all_cons, hk]; rfl
          · obtain ⟨c, t, e1, e2⟩ := rune_high HBs.out HR.out (by omega)
            rw [all_false HP.out e1 e2]; rfl
        · have hv2 : (vn : Int) < 128 := by
            by_cases h : (vn : Int) < 128
            · exact h
            · rw [HP.out _ (by omega)] at hk; cases hk
          have HL := Aside0.mk (low_head HBs.out HR.out hv2)
          clear hv2
          go_wp2_with fail
          refine (kHost_calls _ _).mono ?_
          rintro e w1 ⟨rfl, ⟨m, rfl⟩⟩
          go_wp2_with fail
          have hit1 : ((wr.iterAt w.heap.size s (pos + n)).drewN m).heap[w.heap.size]? = some (.stringIter s (pos + n)) := Lib.iterAt_heap _ _ _ _ _ HI.out
          refine ⟨⟨pos + n, by omega, ?_, hit1, pw_below_drewN (Lib.below_iterAt HB.out (Nat.le_refl _) _ _) _⟩, ?_⟩
          · rw [HD.out, HL.out.1, List.all_cons, hk, HL.out.2, List.drop_drop, Bool.true_and]
          · rw [iterPos_of hit1, iterPos_of HI.out]; omega
    · have hnx := fun ty => Lib.run_next_end_at (P := Try.prog) wr w.heap.size s pos ty HI.out hlt
      have h0 : (bytesOf s).all kHost = true := by
        rw [HD.out, List.drop_eq_nil_of_le (by rw [bytesOf_length]; omega)]; rfl
      have H0 := Aside0.mk h0
      clear h0
      go_wp2_with fail
      go_ret
      refine ⟨?_, HB.out⟩
      unfold allL
      rw [H0.out, size_isEmpty]
      have : (true && !decide (s.size = 0)) = !s.toList.isEmpty := by rw [toList_isEmpty]; rfl
      rw [this]
      rfl
theorem all81_calls (s : ByteArray) (w : World) (hs : s.size ≤ 140737488351232) : Calls Try.prog 71 #[.string s, .func (.func 81) #[] #[]] w (fun e w' => e = .returned (.bool (allL kHost (bytesOf s))) ∧ Below w.heap.size w w') :=
  all81_walk (by intro r hr; unfold kHost; simp [kSmall, kGreat, kDigit]; omega) s w hs
set_option linter.unusedSimpArgs false
set_option maxRecDepth 100000 in
theorem all84_walk (hp : ∀ r, 128 ≤ r → kRoom r = false) (s : ByteArray) (w : World) (hs : s.size ≤ 140737488351232) : Calls Try.prog 71 #[.string s, .func (.func 84) #[] #[]] w (AllPost kRoom s w) := by
  go_enter Try.func71, Try.ntmps71
  go_wp2
  go_loopw [6] (fun v6 wr => AllRel kRoom s w wr) (fun _ w' => s.size - w'.iterPos w.heap.size)
  case atStart => exact ⟨0, by omega, rfl, heap_alloc_new w _, (Below.refl _ _).alloc (Nat.le_refl _) _⟩
  case round =>
    obtain ⟨pos, hpos, hd, hit, hbel⟩ := hrel
    have HD := Aside0.mk hd
    have HI := Aside0.mk hit
    have HB := Aside0.mk hbel
    have HP := Aside0.mk hp
    clear hd hit hbel hp
    by_cases hlt : pos < s.size
    · have hnx := fun ty => Lib.run_next_any_at (P := Try.prog) wr w.heap.size s pos ty HI.out hlt
      have HBs := Aside0.mk ((bs_bytes s).drop pos)
      have hne : (bytesOf s).drop pos ≠ [] := fun e => by have := drop_nil e; rw [bytesOf_length] at this; omega
      have HNE := Aside0.mk hne
      have hdr := decode_rune s pos hlt
      clear hne
      rcases hr : rune ((bytesOf s).drop pos) with _ | ⟨v, n⟩
      · rw [hr] at hdr
        change Utf8.decode s pos = (65533, 1) at hdr
        rw [hdr] at hnx
        have HR := Aside0.mk hr
        clear hr hdr
        go_wp2_with fail
        refine (kRoom_calls _ _).mono ?_
        rintro e w1 ⟨rfl, ⟨m, rfl⟩⟩
        have hk : kRoom (65533 : Int) = false := HP.out _ (by omega)
        go_wp2_with fail
        go_ret
        refine ⟨?_, pw_below_drewN (Lib.below_iterAt HB.out (Nat.le_refl _) _ _) _⟩
        obtain ⟨c, t, e1, e2⟩ := none_high HNE.out HR.out
        unfold allL
        rw [HD.out, all_false HP.out e1 e2]
        rfl
      · rw [hr] at hdr
        have hn := rune_len HBs.out hr
        have hv := (rune_some HBs.out hr).1
        rw [List.length_drop, bytesOf_length] at hn
        obtain ⟨vn, rfl⟩ : ∃ vn : Nat, v = (vn : Int) := ⟨v.toNat, by unfold validR at hv; omega⟩
        change Utf8.decode s pos = ((vn : Int).toNat, n) at hdr
        rw [Int.toNat_natCast] at hdr
        rw [hdr] at hnx
        have HR := Aside0.mk hr
        have hn1 := hn.1
        have hn2 := hn.2
        clear hr hdr hn
        cases hk : kRoom (vn : Int)
        · go_wp2_with fail
          refine (kRoom_calls _ _).mono ?_
          rintro e w1 ⟨rfl, ⟨m, rfl⟩⟩
          go_wp2_with fail
          go_ret
          refine ⟨?_, pw_below_drewN (Lib.below_iterAt HB.out (Nat.le_refl _) _ _) _⟩
          unfold allL
          rw [HD.out]
          by_cases hv2 : (vn : Int) < 128
          · rw [(low_head HBs.out HR.out hv2).1, List.all_cons, hk]; rfl
          · obtain ⟨c, t, e1, e2⟩ := rune_high HBs.out HR.out (by omega)
            rw [all_false HP.out e1 e2]; rfl
        · have hv2 : (vn : Int) < 128 := by
            by_cases h : (vn : Int) < 128
            · exact h
            · rw [HP.out _ (by omega)] at hk; cases hk
          have HL := Aside0.mk (low_head HBs.out HR.out hv2)
          clear hv2
          go_wp2_with fail
          refine (kRoom_calls _ _).mono ?_
          rintro e w1 ⟨rfl, ⟨m, rfl⟩⟩
          go_wp2_with fail
          have hit1 : ((wr.iterAt w.heap.size s (pos + n)).drewN m).heap[w.heap.size]? = some (.stringIter s (pos + n)) := Lib.iterAt_heap _ _ _ _ _ HI.out
          refine ⟨⟨pos + n, by omega, ?_, hit1, pw_below_drewN (Lib.below_iterAt HB.out (Nat.le_refl _) _ _) _⟩, ?_⟩
          · rw [HD.out, HL.out.1, List.all_cons, hk, HL.out.2, List.drop_drop, Bool.true_and]
          · rw [iterPos_of hit1, iterPos_of HI.out]; omega
    · have hnx := fun ty => Lib.run_next_end_at (P := Try.prog) wr w.heap.size s pos ty HI.out hlt
      have h0 : (bytesOf s).all kRoom = true := by
        rw [HD.out, List.drop_eq_nil_of_le (by rw [bytesOf_length]; omega)]; rfl
      have H0 := Aside0.mk h0
      clear h0
      go_wp2_with fail
      go_ret
      refine ⟨?_, HB.out⟩
      unfold allL
      rw [H0.out, size_isEmpty]
      have : (true && !decide (s.size = 0)) = !s.toList.isEmpty := by rw [toList_isEmpty]; rfl
      rw [this]
      rfl
theorem all84_calls (s : ByteArray) (w : World) (hs : s.size ≤ 140737488351232) : Calls Try.prog 71 #[.string s, .func (.func 84) #[] #[]] w (fun e w' => e = .returned (.bool (allL kRoom (bytesOf s))) ∧ Below w.heap.size w w') :=
  all84_walk (by intro r hr; unfold kRoom; simp [kSmall, kGreat, kDigit]; omega) s w hs
end
section
set_option linter.unusedVariables false
open Go.RowKit Go.Proofs.YtboelmakccaenaaW.PrintWords Go.Proofs.YtboelmakccaenaaW.PrintLast Go.Proofs.YtboelmakccaenaaW.PrintMore
/-- The place of the first colon, or the length. -/
def colonN : List Int → Nat | [] => 0 | c :: t => if c = 58 then 0 else colonN t + 1
theorem colonN_le : ∀ l, colonN l ≤ l.length
  | [] => Nat.le_refl _
  | c :: t => by
    have := colonN_le t
    simp only [colonN, List.length_cons]
    split <;> omega
theorem index_colon : ∀ l : List UInt8, Lib.indexByte l 58 = if colonN (l.map fun b => (b.toNat : Int)) < l.length then (colonN (l.map fun b => (b.toNat : Int)) : Int) else -1
  | [] => rfl
  | b :: l => by
    have ih := index_colon l
    simp only [Lib.indexByte, List.map_cons, colonN, List.length_cons]
    by_cases hb : b = 58
    · subst hb
      simp
    · have h1 : (b == 58) = false := by simpa using hb
      have h2 : ¬ (b.toNat : Int) = 58 := by
        intro h
        apply hb
        have : b.toNat = (58 : UInt8).toNat := by simp; omega
        exact UInt8.toNat_inj.mp this
      rw [h1, if_neg h2]
      simp only [Bool.false_eq_true, if_false]
      rw [ih]
      by_cases hc : colonN (l.map fun b => (b.toNat : Int)) < l.length
      · have e : ((colonN (l.map fun b => (b.toNat : Int)) : Int) == -1) = false := beq_eq_false_iff_ne.mpr (by omega)
        have hc' : colonN (l.map fun b => (b.toNat : Int)) + 1 < l.length + 1 := by omega
        rw [if_pos hc, if_pos hc', e]
        simp
      · have hc' : ¬ colonN (l.map fun b => (b.toNat : Int)) + 1 < l.length + 1 := by omega
        rw [if_neg hc, if_neg hc']
        rfl
/-- The place that the library finds. -/
def colonI (s : ByteArray) : Int := if colonN (bytesOf s) < s.size then (colonN (bytesOf s) : Int) else -1
theorem index_byte_colon (s : ByteArray) : Lib.indexByte s.data.toList 58 = colonI s := by
  rw [index_colon]
  rfl
set_option maxRecDepth 100000 in
theorem indexByte_calls (s : ByteArray) (w : World) :
    Calls Try.prog 104 #[.string s, .int .u8 58] w fun e w' => e = .returned (.int .i64 (colonI s)) ∧ w' = w := by
  go_enter Try.func104, Try.ntmps104
  go_wp2
  rw [run_callFunc_extern Try.func110 (by kernel_rfl) (by kernel_rfl) (by kernel_rfl) (e := Extern.BytealgIndexByte.indexByte) (by kernel_rfl), Lib.run_indexByteString]
  simp only [Result.andThen]
  rw [Oper.upon_value]
  have : Lib.indexByte s.data.toList (58 : Int).toNat.toUInt8 = colonI s := index_byte_colon s
  rw [this]
  go_wp2
  go_ret
  exact ⟨rfl, rfl⟩
set_option maxRecDepth 100000 in
theorem index_calls (s : ByteArray) (w : World) :
    Calls Try.prog 103 #[.string s, .string ⟨#[58]⟩] w fun e w' => e = .returned (.int .i64 (colonI s)) ∧ Drawn0 w w' := by
  go_enter Try.func103, Try.ntmps103
  go_wp2_with (go_at_call 104; refine (indexByte_calls s _).mono ?_; rintro e w1 ⟨rfl, rfl⟩)
  · have h : ([58] == s.toList) = true := by assumption
    go_ret
    refine ⟨?_, Drawn0.refl _⟩
    have e : s.data.toList = [58] := by rw [← Lib.toList_data]; exact (beq_iff_eq.1 h).symm
    have : colonI s = 0 := by rw [← index_byte_colon, e]; rfl
    rw [this]
    rfl
  · go_ret
    exact ⟨rfl, Drawn0.refl _⟩
theorem index_at (s : ByteArray) (c : Int) (w : World) (h : colonI s = c) :
    Calls Try.prog 103 #[.string s, .string ⟨#[58]⟩] w fun e w' => e = .returned (.int .i64 c) ∧ Drawn0 w w' := by
  rw [← h]; exact index_calls s w
/-- What strings.Cut answers at a colon. -/
def cutS (s : ByteArray) : ByteArray × ByteArray × Bool :=
  if colonN (bytesOf s) < s.size then (s.extract 0 (colonN (bytesOf s)), s.extract (colonN (bytesOf s) + 1) s.size, true) else (s, ⟨#[]⟩, false)
set_option maxRecDepth 100000 in
theorem cut97_calls (s : ByteArray) (w : World) (hs : s.size ≤ 140737488351232) :
    Calls Try.prog 97 #[.string s, .string ⟨#[58]⟩] w fun e w' => e = .returned (.tuple #[.string (cutS s).1, .string (cutS s).2.1, .bool (cutS s).2.2]) ∧ Drawn0 w w' := by
  unfold cutS
  by_cases hc : colonN (bytesOf s) < s.size
  · have hi : colonI s = (colonN (bytesOf s) : Int) := if_pos hc
    rw [if_pos hc]
    generalize colonN (bytesOf s) = n at hc hi
    have HI := Aside0.mk hi
    clear hi
    have h0 : decide ((0 : Int) ≤ (n : Int)) = true := decide_eq_true (by omega)
    have h1 : (n : Int) ≤ (s.size : Int) := by omega
    have h2 : (0 : Int) ≤ (n : Int) := by omega
    have h3 : (0 : Int) ≤ (n : Int) + 1 := by omega
    have h4 : (n : Int) + 1 ≤ (s.size : Int) := by omega
    go_enter Try.func97, Try.ntmps97
    go_wp2_with (go_at_call 103; refine (index_at s _ _ HI.out).mono ?_; rintro e w1 ⟨rfl, ⟨m, rfl⟩⟩)
    go_region
    go_wp2
    go_ret3
    exact ⟨rfl, m + 1, rfl⟩
  · have hi : colonI s = -1 := if_neg hc
    rw [if_neg hc]
    have HI := Aside0.mk hi
    clear hi
    go_enter Try.func97, Try.ntmps97
    go_wp2_with (go_at_call 103; refine (index_at s _ _ HI.out).mono ?_; rintro e w1 ⟨rfl, ⟨m, rfl⟩⟩)
    go_ret3
    exact ⟨rfl, _, rfl⟩
theorem cut_calls (s : ByteArray) (w : World) (hs : s.size ≤ 140737488351232) :
    Calls Try.prog 80 #[.string s, .string ⟨#[58]⟩] w fun e w' => e = .returned (.tuple #[.string (cutS s).1, .string (cutS s).2.1, .bool (cutS s).2.2]) ∧ Drawn0 w w' := by
  go_enter Try.func80, Try.ntmps80
  go_wp2_with (go_at_call 97; refine (cut97_calls s _ hs).mono ?_; rintro e w1 ⟨rfl, ⟨m, rfl⟩⟩)
  go_ret3
  exact ⟨rfl, _, rfl⟩
end
end Go.Proofs.Ytboelmakccaenaa.P
