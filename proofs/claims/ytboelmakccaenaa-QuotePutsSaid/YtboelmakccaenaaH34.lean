/- quote.Put by its walk. -/
import Derived.Test.YtboelmakccaenaaM13
import Derived.Test.YtboelmakccaenaaU6
namespace Go.Proofs.Ytboelmakccaenaa.P
set_option linter.unusedVariables false
set_option linter.unusedSimpArgs false
open Go.RowKit Go.Proofs.YtboelmakccaenaaW.PrintWords Go.Proofs.YtboelmakccaenaaW.PrintLast Go.Proofs.YtboelmakccaenaaW.PrintMore
def putA (s : ByteArray) : ByteArray × Bool := if validL (bytesOf s) = true then (strOfNums (34 :: putL (bytesOf s) ++ [34]), true) else (⟨#[]⟩, false)
def PutPost (s : ByteArray) (w : World) (e : Ending) (w' : World) : Prop := e = .returned (.tuple #[.string (putA s).1, .bool (putA s).2]) ∧ Below w.heap.size w w'
def PutRel (s : ByteArray) (B : Nat) (w : World) (v4 : Value) (wr : World) : Prop :=
  ∃ (pos : Nat) (out : List Int), pos ≤ s.size ∧ validL ((bytesOf s).drop pos) = true ∧ 34 :: putL (bytesOf s) = out ++ putL ((bytesOf s).drop pos) ∧ wr.heap[B]? = some (.stringIter s pos) ∧
    Kd.R (Kd.int .u8) 5 wr w.heap.size (fun k => k ≠ B) v4 out ∧ Below w.heap.size w wr ∧ out.length ≤ 6 * pos + 1
theorem R_iterk {α : Type} {d : Kd α} {e : Nat} {wr : World} {base B : Nat} {v : Value} {xs : List α} {s : ByteArray} {p : Nat} (h : Kd.R d e wr base (fun k => k ≠ B) v xs) : Kd.R d e (wr.iterAt B s p) base (fun k => k ≠ B) v xs :=
  Kd.R_step h (fun k hk _ => Lib.iterAt_other _ _ _ _ _ hk)
theorem iter_kept {w3 w4 w5 : World} {B pos : Nat} {s : ByteArray} {row : Option Nat} (h : w3.heap[B]? = some (.stringIter s pos)) (h4 : Below w3.heap.size w3 w4) (hg : w4.grownBy w5 row) (hne : ∀ k, row = some k → k ≠ B) : w5.heap[B]? = some (.stringIter s pos) := by
  have hlt : B < w3.heap.size := (Array.getElem?_eq_some_iff.1 h).1
  have e4 : w4.heap[B]? = some (.stringIter s pos) := (h4.block B hlt).trans h
  have hlt4 : B < w4.heap.size := (Array.getElem?_eq_some_iff.1 e4).1
  exact (hg.block B hlt4 (fun e => hne B e.symm rfl)).trans e4
theorem and15 : ∀ n : Fin 32, Go.bits .and .i32 (n.val : Int) 15 = (n.val : Int) % 16 := by decide
theorem tab12 : rtab .any (opsOf Try.f34 12) = (true, [([], []), ([], []), ([1], [1]), ([2], [2]), ([], []), ([4], [4]), ([5], [5]), ([3, 6], [3, 6]), ([0, 7], [0, 7]), ([8, 8, 0, 1, 2, 3, 4, 5, 6, 7, 8], [0, 8])]) := by kernel_rfl
theorem bits12 : waitsOk [([], []), ([], []), ([1], [1]), ([2], [2]), ([], []), ([4], [4]), ([5], [5]), ([3, 6], [3, 6]), ([0, 7], [0, 7]), ([8, 8, 0, 1, 2, 3, 4, 5, 6, 7, 8], [0, 8])] [0, 0, 2, 6, 0, 16, 48, 126, 255, 511] = true := by kernel_rfl
theorem valid_at (s : ByteArray) (b : Bool) (w : World) (hs : s.size ≤ 140737488351232) (h : validL (bytesOf s) = b) : Calls Try.prog 22 #[.string s] w fun e w' => e = .returned (.bool b) ∧ Below w.heap.size w w' := by
  rw [← h]; exact valid_walk s w hs
set_option maxRecDepth 100000 in
theorem put_walk (s : ByteArray) (w : World) (hs : s.size ≤ 16777216) : Calls Try.prog 34 #[.string s] w (PutPost s w) := by
  cases hvv : validL (bytesOf s)
  · have hA : putA s = (⟨#[]⟩, false) := if_neg (by rw [hvv]; decide)
    have HV := Aside0.mk (fun w => valid_at s false w (by omega) hvv)
    unfold PutPost
    rw [hA]
    clear hvv hA
    go_enter Try.func34, Try.ntmps34
    go_wp2_with (go_at_call 22; refine (HV.out _).mono ?_; rintro e w1 ⟨rfl, hb⟩)
    go_ret2
    exact ⟨rfl, hb⟩
  · have hA : putA s = (strOfNums (34 :: putL (bytesOf s) ++ [34]), true) := if_pos hvv
    have HV := Aside0.mk (fun w => valid_at s true w (by omega) hvv)
    have HVV := Aside0.mk hvv
    have HA := Aside0.mk hA
    clear hvv hA
    go_enter Try.func34, Try.ntmps34
    go_wp2_with fail
    refine (HV.out _).mono ?_
    rintro e w1 ⟨rfl, hb⟩
    have HB1 := Aside0.mk hb
    clear hb
    go_wp2_with ((with_reducible refine gate_dst (N := 11) rfl ?_); refine Kd.R_lit (Kd.int .u8) w1.heap.size 5 ?hg (N := 11) ?hd (xs := ([34] : List Int)) (inner := [.int .u8 34]) (ok := fun _ => True) (okp := fun _ => True) ?hr ?hp (fun _ hk => hk) trivial (Below.refl _ _) (Nat.le_refl _) (by simp) ?_; (case hd => rfl); (case hg => rfl); (case hr => first | (go_simp; done) | (go_simp; rfl)); (case hp => exact (Reps.one (show Kd.M (Kd.int .u8) _ _ _ 34 [.int .u8 34] from rfl) (Reps.none _ _))); intro v35 w2 ho hb hg_ hnew_; clear hg_ hnew_; have HO2 := Aside0.mk ho; have HB2 := Aside0.mk hb; clear ho hb)
    have h12 : w.heap.size ≤ w1.heap.size := HB1.out.size
    have h22 : w1.heap.size ≤ w2.heap.size := HB2.out.size
    have HBB := Aside0.mk (HB1.out.trans (HB2.out.mono HB1.out.size))
    go_loopw [4] (fun v4 wr => PutRel s w2.heap.size w v4 wr) (fun _ w' => s.size - w'.iterPos w2.heap.size)
    case atStart =>
      refine ⟨0, [34], by omega, HVV.out, rfl, heap_alloc_new w2 _, ?_, HBB.out.alloc (by omega) _, by simp⟩
      exact Kd.R_alloc (Kd.R_mono (Kd.R_bound (Kd.R_lower HO2.out h12)) (fun k hk => by have := hk.2.2.1; omega)) _
    case round =>
      obtain ⟨pos, out, hpos, hvd, hd, hit, hown, hbel, hlen⟩ := hrel
      have HVD := Aside0.mk hvd
      have HD := Aside0.mk hd
      have HI := Aside0.mk hit
      have HO := Aside0.mk hown
      have HB := Aside0.mk hbel
      have HL := Aside0.mk hlen
      clear hvd hd hit hown hbel hlen
      by_cases hp : pos < s.size
      · have hnx := fun ty => Lib.run_next_any_at (P := Try.prog) wr w2.heap.size s pos ty HI.out hp
        have HBs := Aside0.mk ((bs_bytes s).drop pos)
        have hne : (bytesOf s).drop pos ≠ [] := fun e => by have := drop_nil e; rw [bytesOf_length] at this; omega
        have HNE := Aside0.mk hne
        have hdr := decode_rune s pos hp
        clear hne
        rcases hr : rune ((bytesOf s).drop pos) with _ | ⟨v, n⟩
        · have := validL_none HNE.out hr
          rw [HVD.out] at this
          cases this
        · rw [hr] at hdr
          have hn := rune_len HBs.out hr
          have hrs := rune_some HBs.out hr
          have hv := hrs.1
          rw [List.length_drop, bytesOf_length] at hn
          obtain ⟨vn, rfl⟩ : ∃ vn : Nat, v = (vn : Int) := ⟨v.toNat, by unfold validR at hv; omega⟩
          change Utf8.decode s pos = ((vn : Int).toNat, n) at hdr
          rw [Int.toNat_natCast] at hdr
          rw [hdr] at hnx
          have HV2 := Aside0.mk hv
          have HN := Aside0.mk hrs.2.2
          have hn1 := hn.1
          have hn2 := hn.2
          have HVN : Aside0 (validL ((bytesOf s).drop (pos + n)) = true) := ⟨by have := validL_some HBs.out hr; rw [HVD.out, List.drop_drop] at this; exact this.symm⟩
          have HDN : Aside0 (34 :: putL (bytesOf s) = (out ++ (if (vn : Int) < 128 then put1 (vn : Int) else encR (vn : Int))) ++ putL ((bytesOf s).drop (pos + n))) := ⟨by
            have h2 := hrs.2.1
            rw [List.drop_drop] at h2
            rw [HD.out, h2, putL_app, putL_rune hv, List.append_assoc]⟩
          have hsz : w2.heap.size < wr.heap.size := (Array.getElem?_eq_some_iff.1 HI.out).1
          have hszw : w.heap.size ≤ wr.heap.size := HB.out.size
          clear hr hdr hn hrs hv
          go_wp2_with fail
          refine (short_calls _ _).mono ?_
          rintro e w3 ⟨rfl, ⟨m, rfl⟩⟩
          have HI3 : Aside0 (((wr.iterAt w2.heap.size s (pos + n)).drewN m).heap[w2.heap.size]? = some (.stringIter s (pos + n))) := ⟨Lib.iterAt_heap _ _ _ _ _ HI.out⟩
          have HO3 : Aside0 (Kd.R (Kd.int .u8) 5 ((wr.iterAt w2.heap.size s (pos + n)).drewN m) w.heap.size (fun k => k ≠ w2.heap.size) u4 out) := ⟨Kd.R_drewN (R_iterk HO.out) _⟩
          have HB3 : Aside0 (Below w.heap.size w ((wr.iterAt w2.heap.size s (pos + n)).drewN m)) := ⟨pw_below_drewN (Lib.below_iterAt HB.out (by omega) _ _) _⟩
          have HM := Aside0.mk (iterPos_of HI.out)
          clear hnx
          generalize (wr.iterAt w2.heap.size s (pos + n)).drewN m = w3 at HI3 HO3 HB3 ⊢
          have hsz3 : w2.heap.size < w3.heap.size := (Array.getElem?_eq_some_iff.1 HI3.out).1
          have hszw3 : w.heap.size ≤ w3.heap.size := HB3.out.size
          by_cases hc : shortV (vn : Int) = 0
          · by_cases h32 : (vn : Int) < 32
            · have d32 : decide ((vn : Int) < 32) = true := decide_eq_true h32
              have hcb : ((0 : Int) != 0) = false := rfl
              rw [hc]
              have HPX : Aside0 (put1 (vn : Int) = ([92, 117, 48, 48, bt (⟨#[48, 49, 50, 51, 52, 53, 54, 55, 56, 57, 97, 98, 99, 100, 101, 102]⟩ : ByteArray) ((vn : Int) / 16), bt (⟨#[48, 49, 50, 51, 52, 53, 54, 55, 56, 57, 97, 98, 99, 100, 101, 102]⟩ : ByteArray) ((vn : Int) % 16)] : List Int)) := ⟨by
                have hz : ∀ x : Fin 16, bt (⟨#[48, 49, 50, 51, 52, 53, 54, 55, 56, 57, 97, 98, 99, 100, 101, 102]⟩ : ByteArray) (x.val : Int) = hexD (x.val : Int) := by decide
                have z1 : bt (⟨#[48, 49, 50, 51, 52, 53, 54, 55, 56, 57, 97, 98, 99, 100, 101, 102]⟩ : ByteArray) ((vn : Int) / 16) = hexD ((vn : Int) / 16) := lift_fin (f := fun y => bt (⟨#[48, 49, 50, 51, 52, 53, 54, 55, 56, 57, 97, 98, 99, 100, 101, 102]⟩ : ByteArray) y) (g := hexD) hz _ (by omega) (by omega)
                have z2 : bt (⟨#[48, 49, 50, 51, 52, 53, 54, 55, 56, 57, 97, 98, 99, 100, 101, 102]⟩ : ByteArray) ((vn : Int) % 16) = hexD ((vn : Int) % 16) := lift_fin (f := fun y => bt (⟨#[48, 49, 50, 51, 52, 53, 54, 55, 56, 57, 97, 98, 99, 100, 101, 102]⟩ : ByteArray) y) (g := hexD) hz _ (by omega) (by omega)
                unfold put1
                rw [if_neg (by rw [hc]; simp), if_pos h32, z1, z2]⟩
              clear hc
              go_wp2_with fail
              have hand15 : Go.bits .and .i32 (vn : Int) 15 = (vn : Int) % 16 := lift_fin (f := fun y => Go.bits .and .i32 y 15) (g := fun y => y % 16) and15 _ (by omega) (by omega)
              have hx1 := bt_at (⟨#[48, 49, 50, 51, 52, 53, 54, 55, 56, 57, 97, 98, 99, 100, 101, 102]⟩ : ByteArray) ((vn : Int) / 16)
              have hx2 := bt_at (⟨#[48, 49, 50, 51, 52, 53, 54, 55, 56, 57, 97, 98, 99, 100, 101, 102]⟩ : ByteArray) ((vn : Int) % 16)
              have p1 : (0 ≤ ((vn : Int) / 16)) = True := eq_true (by omega)
              have q1 : ((vn : Int) / 16 < (16 : Int)) = True := eq_true (by omega)
              have p2 : (0 ≤ ((vn : Int) % 16)) = True := eq_true (by omega)
              have q2 : ((vn : Int) % 16 < (16 : Int)) = True := eq_true (by omega)
              have HOd := Aside0.mk (Kd.R_drew HO3.out)
              have HBd := Aside0.mk (below_drew1 HB3.out)
              have HId : Aside0 (w3.drew.heap[w2.heap.size]? = some (.stringIter s (pos + n))) := ⟨HI3.out⟩
              refine start_ (n := 10) (S := fun w' => True) (ds := []) #[false, false, false, false, false, false, false, false, false, false] (by kernel_rfl) rfl rfl trivial (fun hHeld => ?_); refine with_tabW tab12 bits12 (fun HT_ HW_ => ?_)
              generalize w3.drew = w6 at HOd HBd HId hHeld ⊢
              have hsz6 : w2.heap.size < w6.heap.size := (Array.getElem?_eq_some_iff.1 HId.out).1
              have hszw6 : w.heap.size ≤ w6.heap.size := HBd.out.size
              refine pure_ (i := 0) (N := some 32) (v := ?_) (a' := ?_) #[true, false, false, false, false, false, false, false, false, false] rfl rfl (any_of HT_.out (by kernel_rfl)) (fun _ _ _ h => h) (Or.inl ⟨by rfl, ?_⟩) ?_ ?_
              rotate_left
              · intro w'
                go_simp
                with_reducible rfl
              rotate_left
              · simp only [Act.put, List.setIfInBounds_toArray, List.set_cons_zero, List.set_cons_succ, i64_w, i32_w]
                rfl
              refine pure_ (i := 1) (N := some 33) (v := ?_) (a' := ?_) #[true, true, false, false, false, false, false, false, false, false] rfl rfl (any_of HT_.out (by kernel_rfl)) (fun _ _ _ h => h) (Or.inl ⟨by rfl, ?_⟩) ?_ ?_
              rotate_left
              · intro w'
                go_simp
                with_reducible rfl
              rotate_left
              · simp only [Act.put, List.setIfInBounds_toArray, List.set_cons_zero, List.set_cons_succ, i64_w, i32_w]
                rfl
              refine pure_ (i := 2) (N := some 34) (v := ?_) (a' := ?_) #[true, true, true, false, false, false, false, false, false, false] rfl rfl (any_of HT_.out (by kernel_rfl)) (fun _ _ _ h => h) (Or.inl ⟨by rfl, ?_⟩) ?_ ?_
              rotate_left
              · intro w'
                go_simp
                with_reducible rfl
              rotate_left
              · simp only [Act.put, List.setIfInBounds_toArray, List.set_cons_zero, List.set_cons_succ, i64_w, i32_w]
                rfl
              refine pure_ (i := 4) (N := some 36) (v := ?_) (a' := ?_) #[true, true, true, false, true, false, false, false, false, false] rfl rfl (any_of HT_.out (by kernel_rfl)) (fun _ _ _ h => h) (Or.inl ⟨by rfl, ?_⟩) ?_ ?_
              rotate_left
              · intro w'
                go_simp
                with_reducible rfl
              rotate_left
              · simp only [Act.put, List.setIfInBounds_toArray, List.set_cons_zero, List.set_cons_succ, i64_w, i32_w]
                rfl
              refine pure_ (i := 5) (N := some 37) (v := ?_) (a' := ?_) #[true, true, true, false, true, true, false, false, false, false] rfl rfl (any_of HT_.out (by kernel_rfl)) (fun _ _ _ h => h) (Or.inl ⟨by rfl, ?_⟩) ?_ ?_
              rotate_left
              · intro w'
                go_simp
                with_reducible rfl
              rotate_left
              · simp only [Act.put, List.setIfInBounds_toArray, List.set_cons_zero, List.set_cons_succ, i64_w, i32_w]
                rfl
              refine take_ (i := 3) (N := some 35) (v := ?_) (a' := ?_) #[true, true, true, true, true, true, false, false, false, false] rfl rfl (take_ofW HT_.out HW_.out (by kernel_rfl)) (fun _ _ _ h => h) (Or.inl ⟨by rfl, ?_⟩) hHeld ?_ ?_
              rotate_left
              · intro w' _
                go_simp
                with_reducible rfl
              rotate_left
              · simp only [Act.put, List.setIfInBounds_toArray, List.set_cons_zero, List.set_cons_succ, i64_w, i32_w]
                rfl
              refine take_ (i := 6) (N := some 38) (v := ?_) (a' := ?_) #[true, true, true, true, true, true, true, false, false, false] rfl rfl (take_ofW HT_.out HW_.out (by kernel_rfl)) (fun _ _ _ h => h) (Or.inl ⟨by rfl, ?_⟩) hHeld ?_ ?_
              rotate_left
              · intro w' _
                go_simp
                with_reducible rfl
              rotate_left
              · simp only [Act.put, List.setIfInBounds_toArray, List.set_cons_zero, List.set_cons_succ, i64_w, i32_w]
                rfl
              refine one_ (i := 7) (N := some 39) #[true, true, true, true, true, true, true, true, false, false] rfl rfl (one_of HT_.out (by kernel_rfl)) (by decide) (fun K hK => ?_)
              refine Kd.R_lit_step (Kd.int .u8) _ 5 ?hg (N := 39) ?hd (xs := ([92, 117, 48, 48, bt (⟨#[48, 49, 50, 51, 52, 53, 54, 55, 56, 57, 97, 98, 99, 100, 101, 102]⟩ : ByteArray) ((vn : Int) / 16), bt (⟨#[48, 49, 50, 51, 52, 53, 54, 55, 56, 57, 97, 98, 99, 100, 101, 102]⟩ : ByteArray) ((vn : Int) % 16)] : List Int)) (inner := [.int .u8 92, .int .u8 117, .int .u8 48, .int .u8 48, .int .u8 (bt (⟨#[48, 49, 50, 51, 52, 53, 54, 55, 56, 57, 97, 98, 99, 100, 101, 102]⟩ : ByteArray) ((vn : Int) / 16)), .int .u8 (bt (⟨#[48, 49, 50, 51, 52, 53, 54, 55, 56, 57, 97, 98, 99, 100, 101, 102]⟩ : ByteArray) ((vn : Int) % 16))]) (ok := fun _ => True) (okp := fun _ => True) ?hr ?hp (fun _ hk => hk) trivial (Below.refl _ _) (Nat.le_refl _) (by simp) ?_; (case hd => rfl); (case hg => rfl); (case hr => first | (go_simp; done) | (go_simp; rfl)); (case hp => exact (Reps.one (show Kd.M (Kd.int .u8) _ _ _ (92) [.int .u8 (92)] from rfl) (Reps.one (show Kd.M (Kd.int .u8) _ _ _ (117) [.int .u8 (117)] from rfl) (Reps.one (show Kd.M (Kd.int .u8) _ _ _ (48) [.int .u8 (48)] from rfl) (Reps.one (show Kd.M (Kd.int .u8) _ _ _ (48) [.int .u8 (48)] from rfl) (Reps.one (show Kd.M (Kd.int .u8) _ _ _ (bt (⟨#[48, 49, 50, 51, 52, 53, 54, 55, 56, 57, 97, 98, 99, 100, 101, 102]⟩ : ByteArray) ((vn : Int) / 16)) [.int .u8 (bt (⟨#[48, 49, 50, 51, 52, 53, 54, 55, 56, 57, 97, 98, 99, 100, 101, 102]⟩ : ByteArray) ((vn : Int) / 16))] from rfl) (Reps.one (show Kd.M (Kd.int .u8) _ _ _ (bt (⟨#[48, 49, 50, 51, 52, 53, 54, 55, 56, 57, 97, 98, 99, 100, 101, 102]⟩ : ByteArray) ((vn : Int) % 16)) [.int .u8 (bt (⟨#[48, 49, 50, 51, 52, 53, 54, 55, 56, 57, 97, 98, 99, 100, 101, 102]⟩ : ByteArray) ((vn : Int) % 16))] from rfl) (Reps.none _ _))))))))
              intro v35b w4 ho hb hg_ hnew_
              clear hg_ hnew_
              have HO4 := Aside0.mk ho
              have HB4 := Aside0.mk hb
              clear ho hb
              obtain ⟨Ao, co, eo⟩ := Kd.R_slice HO4.out
              subst eo
              have hsz4 := HB4.out.size
              refine hK.out _ _ trivial (fun hHeld => ?_)
              clear hK K
              refine norm_ (a' := ?_) ?_ ?_
              rotate_left
              · show Act.put _ (some 39) _ = _
                simp only [Act.put, List.setIfInBounds_toArray, List.set_cons_zero, List.set_cons_succ, i64_w, i32_w]
                rfl
              refine one_ (i := 8) (N := some 40) #[true, true, true, true, true, true, true, true, true, false] rfl rfl (one_of HT_.out (by kernel_rfl)) (by decide) (fun K hK => ?_)
              refine Kd.R_append_rows_step (Kd.int .u8) (w0 := w) w.heap.size (by rfl) (.tmp 32) (.tmp 39) 23 5 (.int .u8 0) 1 rfl Try.underlying23 info5 rfl (by decide) (by omega) u4 out ([92, 117, 48, 48, bt (⟨#[48, 49, 50, 51, 52, 53, 54, 55, 56, 57, 97, 98, 99, 100, 101, 102]⟩ : ByteArray) ((vn : Int) / 16), bt (⟨#[48, 49, 50, 51, 52, 53, 54, 55, 56, 57, 97, 98, 99, 100, 101, 102]⟩ : ByteArray) ((vn : Int) % 16)] : List Int) _ _ _ (fun k => k ≠ w2.heap.size) (fun _ => False) rfl rfl ?aO ?aR (fun _ _ h => h) (fun _ h => h.elim) ?aF ?aB ?aS ?aL ?_
              (case aR => exact (Kd.R_reads' HO4.out).2.2)
              (case aB => exact HBd.out.trans (HB4.out.mono hszw6))
              (case aF => exact (fun k_ hk => by omega))
              (case aO => exact Kd.R_below HOd.out HB4.out)
              (case aS => omega)
              (case aL => have := HL.out; simp; omega)
              intro v1 w5 ho hb hg hat
              have HO5 := Aside0.mk ho
              have HB5 := Aside0.mk hb
              have HG5 := Aside0.mk hg
              clear ho hb hg hat
              refine hK.out _ _ trivial (fun hHeld => ?_)
              clear hK K
              refine norm_ (a' := ?_) ?_ ?_
              rotate_left
              · show Act.put _ (some 40) _ = _
                simp only [Act.put, List.setIfInBounds_toArray, List.set_cons_zero, List.set_cons_succ, i64_w, i32_w]
                rfl
              refine pure_ (i := 9) (N := some 4) (v := ?_) (a' := ?_) #[true, true, true, true, true, true, true, true, true, true] rfl rfl (any_of HT_.out (by kernel_rfl)) (fun _ _ _ h => h) (Or.inl ⟨by rfl, ?_⟩) ?_ ?_
              rotate_left
              · intro w'
                go_simp
                with_reducible rfl
              rotate_left
              · simp only [Act.put, List.setIfInBounds_toArray, List.set_cons_zero, List.set_cons_succ, i64_w, i32_w]
                rfl
              refine done_ (done_of HT_.out (by kernel_rfl)) ?_
              try go_wp2
              have hit5 := iter_kept HId.out HB4.out HG5.out HOd.out.1
              refine ⟨⟨pos + n, out ++ ([92, 117, 48, 48, bt (⟨#[48, 49, 50, 51, 52, 53, 54, 55, 56, 57, 97, 98, 99, 100, 101, 102]⟩ : ByteArray) ((vn : Int) / 16), bt (⟨#[48, 49, 50, 51, 52, 53, 54, 55, 56, 57, 97, 98, 99, 100, 101, 102]⟩ : ByteArray) ((vn : Int) % 16)] : List Int), by omega, HVN.out, ?_, hit5, HO5.out, HB5.out, by have := HL.out; simp; omega⟩, ?_⟩
              · rw [HDN.out, if_pos (by omega), HPX.out]
              · rw [iterPos_of hit5, HM.out]; omega
            · have d32 : decide ((vn : Int) < 32) = false := decide_eq_false h32
              have HAP := Aside0.mk (append_f (vn : Int) out HV2.out (by have := HL.out; omega))
              have HE : Aside0 ((if (vn : Int) < 128 then put1 (vn : Int) else encR (vn : Int)) = encR (vn : Int)) := ⟨by
                by_cases h : (vn : Int) < 128
                · rw [if_pos h]; unfold put1 encR; rw [if_neg (by rw [hc]; simp), if_neg h32, if_pos h]
                · rw [if_neg h]⟩
              rw [hc]
              clear hc h32
              go_wp2_with (go_at_call 79; refine (utf8_AppendRune.calls 1 (fun k => k ≠ w2.heap.size) u4 out (vn : Int) _ w w3 HB3.out HO3.out HAP.out).mono ?_; rintro e w5 ⟨v1, rfl, ho, hb, hk⟩; have HO5 := Aside0.mk ho; have HB5 := Aside0.mk hb; have HK5 := Aside0.mk hk; clear ho hb hk)
              have hit5 : w5.heap[w2.heap.size]? = some (.stringIter s (pos + n)) := (HK5.out.2 _ hsz3 (fun h => h rfl)).trans HI3.out
              refine ⟨⟨pos + n, out ++ encR (vn : Int), by omega, HVN.out, ?_, hit5, Kd.R_mono HO5.out (fun k hk => by omega), HB5.out, by have := HL.out; have := HN.out; rw [List.length_append]; omega⟩, ?_⟩
              · rw [HDN.out, HE.out]
              · rw [iterPos_of hit5, HM.out]; omega
          · have h128 : (vn : Int) < 128 := by
              by_cases h : (vn : Int) < 128
              · exact h
              · exact absurd (short_high (by omega)) hc
            have hcb : (shortV (vn : Int) != 0) = true := bne_iff_ne.mpr hc
            have hcb2 : (shortV (vn : Int) == 0) = false := beq_eq_false_iff_ne.mpr hc
            have HP : Aside0 (put1 (vn : Int) = [92, shortV (vn : Int)]) := ⟨by unfold put1; rw [if_pos hc]⟩
            generalize shortV (vn : Int) = c at hcb hcb2 HP hc ⊢
            clear hc
            go_wp2_with (first | ((with_reducible refine gate_dst (N := 27) rfl ?_); refine Kd.R_lit (Kd.int .u8) w3.heap.size 5 ?hg (N := 27) ?hd (xs := ([92, c] : List Int)) (inner := [.int .u8 92, .int .u8 c]) (ok := fun _ => True) (okp := fun _ => True) ?hr ?hp (fun _ hk => hk) trivial (Below.refl _ _) (Nat.le_refl _) (by simp) ?_; (case hd => rfl); (case hg => rfl); (case hr => first | (go_simp; done) | (go_simp; rfl)); (case hp => exact (Reps.one (show Kd.M (Kd.int .u8) _ _ _ 92 [.int .u8 92] from rfl) (Reps.one (show Kd.M (Kd.int .u8) _ _ _ c [.int .u8 c] from rfl) (Reps.none _ _)))); intro v35b w4 ho hb hg_ hnew_; clear hg_ hnew_; have HO4 := Aside0.mk ho; have HB4 := Aside0.mk hb; clear ho hb; obtain ⟨Ao, co, eo⟩ := Kd.R_slice HO4.out; subst eo; have hsz4 := HB4.out.size) | ((with_reducible refine gate_builtin (b := .append) (xs := #[.tmp 25, .tmp 27]) rfl ?_); at_builtin; refine Kd.R_append_rows (Kd.int .u8) (w0 := w) w.heap.size rfl (.tmp 25) (.tmp 27) 23 5 (.int .u8 0) 1 rfl Try.underlying23 info5 rfl (by decide) (by omega) u4 out [92, c] _ _ _ (fun k => k ≠ w2.heap.size) (fun _ => False) rfl rfl ?aO ?aR (fun _ _ h => h) (fun _ h => h.elim) ?aF ?aB ?aS ?aL ?_; (case aR => exact (Kd.R_reads' HO4.out).2.2); (case aB => exact HB3.out.trans (HB4.out.mono hszw3)); (case aF => exact (fun k_ hk => by omega)); (case aO => exact Kd.R_below HO3.out HB4.out); (case aS => omega); (case aL => have := HL.out; simp; omega); intro v1 w5 ho hb hg hat; have HO5 := Aside0.mk ho; have HB5 := Aside0.mk hb; have HG5 := Aside0.mk hg; clear ho hb hg hat))
            have hit5 := iter_kept HI3.out HB4.out HG5.out HO3.out.1
            refine ⟨⟨pos + n, out ++ [92, c], by omega, HVN.out, ?_, hit5, HO5.out, HB5.out, by have := HL.out; simp; omega⟩, ?_⟩
            · rw [HDN.out, if_pos h128, HP.out]
            · rw [iterPos_of hit5, HM.out]; omega
      · have hnx := fun ty => Lib.run_next_end_at (P := Try.prog) wr w2.heap.size s pos ty HI.out hp
        have hnil : (bytesOf s).drop pos = [] := List.drop_eq_nil_of_le (by rw [bytesOf_length]; omega)
        have HF : Aside0 (34 :: putL (bytesOf s) = out) := ⟨by
          have := HD.out
          rw [hnil] at this
          rw [this]
          show out ++ [] = out
          rw [List.append_nil]⟩
        have hsz : w2.heap.size < wr.heap.size := (Array.getElem?_eq_some_iff.1 HI.out).1
        have hszw : w.heap.size ≤ wr.heap.size := HB.out.size
        clear hnil
        go_wp2_with ((with_reducible refine gate_builtin (b := .append) (xs := #[.tmp 41, .tmp 42]) rfl ?_); at_builtin; refine Kd.R_append (Kd.int .u8) (w0 := w) w.heap.size rfl (.tmp 41) (.tmp 42) 23 5 (.int .u8 0) 1 rfl Try.underlying23 info5 rfl (by decide) (by omega) u4 out 34 [.int .u8 34] (fun k => k ≠ w2.heap.size) (fun _ => False) rfl rfl ?aP (fun _ hk => hk.elim) ?aF ?aO ?aB ?aS ?aL ?_; (case aP => exact rfl); (case aB => exact HB.out); (case aF => exact (fun k_ hk => by omega)); (case aO => exact HO.out); (case aS => exact hszw); (case aL => have := HL.out; omega); intro v1 w5 ho hb hg hat; have HO5 := Aside0.mk ho; have HB5 := Aside0.mk hb; clear ho hb hg hat; have hcv66 := own_string (P := Try.prog) Try.underlying23 Try.underlying5 Try.underlying9 (Kd.own_of_R HO5.out))
        go_ret2
        refine ⟨?_, HB5.out⟩
        rw [HA.out, HF.out]
        rfl
/-- The same, in the printer's form. -/
def quote_Put.f (a0 : ByteArray) : Option (ByteArray × Bool) := if a0.size ≤ 16777216 then some (putA a0) else none
theorem quote_Put.calls (a0 : ByteArray) (r1 : ByteArray) (r2 : Bool) (w : World) (h : quote_Put.f a0 = some (r1, r2)) :
    Calls Try.prog 34 #[.string a0] w fun e w' => e = .returned (.tuple #[.string r1, .bool r2]) ∧ Below w.heap.size w w' := by
  unfold quote_Put.f at h
  split at h
  · rename_i hs
    injection h with h
    have := put_walk a0 w hs
    unfold PutPost at this
    rw [h] at this
    exact this
  · cases h
end Go.Proofs.Ytboelmakccaenaa.P
