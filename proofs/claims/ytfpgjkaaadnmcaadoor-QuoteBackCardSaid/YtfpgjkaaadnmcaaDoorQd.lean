/- quote.Put, by its walk. -/
import Derived.Test.YtfpgjkaaadnmcaaDoorQc
import Derived.Deep.RegionHeld3
namespace Go.Proofs.YtfpgjkaaadnmcaaDoor.P
set_option linter.unusedVariables false
set_option linter.unusedSimpArgs false
open Go.RowKit Go.Proofs.YtfpgjkaaadnmcaaDoorW.PrintWords Go.Proofs.YtfpgjkaaadnmcaaDoorW.PrintLast Go.Proofs.YtfpgjkaaadnmcaaDoorW.PrintMore
attribute [local go_sem] setCell_drewN
theorem OwnL.str {w : World} {base : Nat} {v : Value} {L : List Int} (h : OwnL w base v L) : (convert 33 9 v).run Tryd.prog w = .ok (.string (strOfNums L)) w := by
  rcases h with ⟨rfl, h0⟩ | ⟨g, o, cap, cur, rfl, hb, hg, hn, hm, hs, ht⟩
  · obtain rfl : L = [] := List.eq_nil_of_length_eq_zero h0
    exact run_convert_bytes_nil w 33 5 Tryd.underlying33 Tryd.underlying5 0 0 9 Tryd.underlying9
  · exact run_convert_bytes_arg w 33 5 Tryd.underlying33 Tryd.underlying5 g o L.length cap L (by simp) (fun i hi => by rw [cell_of_row w g (o + i) cur _ _ hg]; exact ht i hi) 9 Tryd.underlying9
def putS (s : ByteArray) : ByteArray × Bool := if validL (bytesOf s) = true then (strOfNums (34 :: putL (bytesOf s) ++ [34]), true) else (⟨#[]⟩, false)
def PutPost (s : ByteArray) (w : World) (e : Ending) (w' : World) : Prop := e = .returned (.tuple #[.string (putS s).1, .bool (putS s).2]) ∧ Below w.heap.size w w'
def PutRel (s : ByteArray) (B : Nat) (w : World) (v4 : Value) (wr : World) : Prop :=
  ∃ (pos : Nat) (out : List Int), pos ≤ s.size ∧ validL ((bytesOf s).drop pos) = true ∧ 34 :: putL (bytesOf s) = out ++ putL ((bytesOf s).drop pos) ∧ wr.heap[B]? = some (.stringIter s pos) ∧
    OwnL wr w.heap.size v4 out ∧ v4.ownBlock ≠ some B ∧ Below w.heap.size w wr ∧ out.length ≤ 6 * pos + 1
theorem OwnL.made (w : World) (base : Nat) (L : List Int) (hb : base ≤ w.heap.size) (hl : L.length ≤ maxLen) : OwnL (w.alloc (.cells (L.map (Value.int .u8)).toArray 5)) base (.slice (some ⟨w.heap.size, 0, none⟩) L.length L.length) L :=
  .inr ⟨w.heap.size, 0, L.length, _, rfl, hb, heap_alloc_new w _, Nat.le_refl _, hl, by simp, fun j hj => by simp [hj]⟩
theorem OwnL.iterAt {w : World} {base B p : Nat} {v : Value} {L : List Int} {s : ByteArray} (h : OwnL w base v L) (hne : v.ownBlock ≠ some B) : OwnL (w.iterAt B s p) base v L := h.keep fun b hb => Lib.iterAt_other _ _ _ _ _ (fun e => hne (by rw [hb, e]))
theorem and15 : ∀ n : Fin 32, Go.bits .and .i32 (n.val : Int) 15 = (n.val : Int) % 16 := by decide
theorem Moves.ne {u u' : Value} {w : World} {B : Nat} (h : Moves u u' w) (hu : u.ownBlock ≠ some B) (hB : B < w.heap.size) : u'.ownBlock ≠ some B := by
  intro e
  rcases h with h | h
  · exact hu (h ▸ e)
  · have := h B e; omega
theorem iter_lt {w : World} {B p : Nat} {s : ByteArray} (h : w.heap[B]? = some (.stringIter s p)) : B < w.heap.size := (Array.getElem?_eq_some_iff.1 h).1
theorem valid_at (s : ByteArray) (b : Bool) (w : World) (hs : s.size ≤ 140737488351232) (h : validL (bytesOf s) = b) : Calls Tryd.prog 11 #[.string s] w fun e w' => e = .returned (.bool b) ∧ Below w.heap.size w w' := by
  rw [← h]; exact valid_walk s w hs
/-- What is put for a rune. -/
def put2 (v : Int) : List Int := if v < 128 then put1 v else encR v
theorem put2_len (v : Int) : (put2 v).length ≤ 6 := by
  unfold put2
  split
  · unfold put1
    split
    · simp
    · split <;> simp
  · have := encR_len v; omega
set_option maxRecDepth 100000 in
set_option maxHeartbeats 1000000 in
theorem put_walk (s : ByteArray) (w : World) (hs : s.size ≤ 16777216) : Calls Tryd.prog 10 #[.string s] w (PutPost s w) := by
  cases hvv : validL (bytesOf s)
  · have hA : putS s = (⟨#[]⟩, false) := if_neg (by rw [hvv]; decide)
    have HV := Aside0.mk (fun w => valid_at s false w (by omega) hvv)
    unfold PutPost
    rw [hA]
    clear hvv hA
    go_enter Tryd.func10, Tryd.ntmps10
    go_wp2_with fail
    refine (HV.out _).mono ?_
    rintro e w1 ⟨rfl, hb⟩
    go_wp2_with fail
    go_ret2
    exact ⟨rfl, hb⟩
  · have hA : putS s = (strOfNums (34 :: putL (bytesOf s) ++ [34]), true) := if_pos hvv
    have HV := Aside0.mk (fun w => valid_at s true w (by omega) hvv)
    have HVV := Aside0.mk hvv
    have HA := Aside0.mk hA
    clear hvv hA
    go_enter Tryd.func10, Tryd.ntmps10
    go_wp2_with fail
    refine (HV.out _).mono ?_
    rintro e w1 ⟨rfl, hb⟩
    have HB1 := Aside0.mk hb
    have hs1 := HB1.out.size
    have HO2 := Aside0.mk (OwnL.made w1 w.heap.size [34] hs1 (by decide))
    have HB2 := Aside0.mk (HB1.out.alloc hs1 (.cells #[.int .u8 34] 5))
    have hs2 := HB2.out.size
    have HGI : Aside0 ((w1.alloc (.cells #[.int .u8 34] 5)).heap.size = w1.heap.size + 1) := ⟨by simp⟩
    clear hb
    go_wp2_with fail
    obtain ⟨B0, hB0⟩ : ∃ B0, w1.heap.size + 1 = B0 := ⟨_, rfl⟩
    rw [hB0] at HGI ⊢
    have hne0 : w1.heap.size ≠ B0 := by omega
    have hB0w : w.heap.size ≤ B0 := by omega
    clear hB0
    go_loopw [4] (fun v4 wr => PutRel s B0 w v4 wr) (fun _ w' => s.size - w'.iterPos B0)
    case atStart =>
      refine ⟨0, [34], by omega, HVV.out, rfl, ?_, OwnS.alloc HO2.out _, (by intro e; cases e; exact hne0 rfl), HB2.out.alloc hs2 _, by simp⟩
      rw [← HGI.out]
      exact heap_alloc_new _ _
    case round =>
      clear HO2 HB2 hs2 HGI hne0
      obtain ⟨pos, out, hpos, hvd, hd, hit, hown, hne, hbel, hlen⟩ := hrel
      have HVD := Aside0.mk hvd
      have HD := Aside0.mk hd
      have HI := Aside0.mk hit
      have HO := Aside0.mk hown
      have HNB := Aside0.mk hne
      have HB := Aside0.mk hbel
      have HL := Aside0.mk hlen
      clear hvd hd hit hown hne hbel hlen
      by_cases hp : pos < s.size
      · have hnx := fun ty => Lib.run_next_any_at (P := Tryd.prog) wr B0 s pos ty HI.out hp
        have HBs := Aside0.mk ((bs_bytes s).drop pos)
        have hne : (bytesOf s).drop pos ≠ [] := fun e => by have := drop_nil e; rw [bytesOf_length] at this; omega
        have HNE := Aside0.mk hne
        have hdr := decode_rune s pos hp
        clear hne
        rcases hr : rune ((bytesOf s).drop pos) with _ | ⟨v, n⟩
        · have := validL_none HNE.out hr
          rw [HVD.out] at this
          cases this
        · rw [hr] at hdr
          have hn := rune_len HBs.out hr
          have hrs := rune_some HBs.out hr
          have hv := hrs.1
          rw [List.length_drop, bytesOf_length] at hn
          obtain ⟨vn, rfl⟩ : ∃ vn : Nat, v = (vn : Int) := ⟨v.toNat, by unfold validR at hv; omega⟩
          change Utf8.decode s pos = ((vn : Int).toNat, n) at hdr
          rw [Int.toNat_natCast] at hdr
          rw [hdr] at hnx
          have HV2 := Aside0.mk hv
          have HN := Aside0.mk hrs.2.2
          have hn1 := hn.1
          have hn2 := hn.2
          have hvb : (vn : Int) ≤ 1114111 := hv.2.1
          have HVN : Aside0 (validL ((bytesOf s).drop (pos + n)) = true) := ⟨by have := validL_some HBs.out hr; rw [HVD.out, List.drop_drop] at this; exact this.symm⟩
          have HDN : Aside0 (34 :: putL (bytesOf s) = (out ++ put2 (vn : Int)) ++ putL ((bytesOf s).drop (pos + n))) := ⟨by
            have h2 := hrs.2.1
            rw [List.drop_drop] at h2
            unfold put2
            rw [HD.out, h2, putL_app, putL_rune hv, List.append_assoc]⟩
          have HLN : Aside0 ((out ++ put2 (vn : Int)).length ≤ 6 * (pos + n) + 1) := ⟨by have := put2_len (vn : Int); have := HL.out; rw [List.length_append]; omega⟩
          have hsz : B0 < wr.heap.size := iter_lt HI.out
          have hszw : w.heap.size ≤ wr.heap.size := HB.out.size
          have HM := Aside0.mk (iterPos_of HI.out)
          clear hr hdr hn hrs hv
          obtain ⟨x4, c4, rfl⟩ := OwnS.form HO.out
          go_wp2_with fail
          refine (short_calls _ _ (by omega)).mono ?_
          rintro e w3 ⟨rfl, rfl⟩
          have HI3 : Aside0 ((wr.iterAt B0 s (pos + n)).heap[B0]? = some (.stringIter s (pos + n))) := ⟨Lib.iterAt_heap _ _ _ _ _ HI.out⟩
          have HO3 := Aside0.mk (OwnL.iterAt (p := pos + n) (s := s) HO.out HNB.out)
          have HB3 : Aside0 (Below w.heap.size w (wr.iterAt B0 s (pos + n))) := ⟨Lib.below_iterAt HB.out hB0w _ _⟩
          clear hnx
          generalize (wr.iterAt B0 s (pos + n)) = w3 at HI3 HO3 HB3 ⊢
          have hsz3 : B0 < w3.heap.size := iter_lt HI3.out
          have hszw3 : w.heap.size ≤ w3.heap.size := HB3.out.size
          by_cases hc : shortV (vn : Int) = 0
          · by_cases h32 : (vn : Int) < 32
            · have d32 : decide ((vn : Int) < 32) = true := decide_eq_true h32
              have hcb : ((0 : Int) != 0) = false := rfl
              obtain ⟨y1, hy1⟩ : ∃ y, y = hexD ((vn : Int) / 16) := ⟨_, rfl⟩
              obtain ⟨y2, hy2⟩ : ∃ y, y = hexD ((vn : Int) % 16) := ⟨_, rfl⟩
              have hz : ∀ x : Fin 16, bt (⟨#[48, 49, 50, 51, 52, 53, 54, 55, 56, 57, 97, 98, 99, 100, 101, 102]⟩ : ByteArray) (x.val : Int) = hexD (x.val : Int) := by decide
              have z1 : bt (⟨#[48, 49, 50, 51, 52, 53, 54, 55, 56, 57, 97, 98, 99, 100, 101, 102]⟩ : ByteArray) ((vn : Int) / 16) = y1 := hy1 ▸ lift_fin (f := fun y => bt (⟨#[48, 49, 50, 51, 52, 53, 54, 55, 56, 57, 97, 98, 99, 100, 101, 102]⟩ : ByteArray) y) (g := hexD) hz _ (by omega) (by omega)
              have z2 : bt (⟨#[48, 49, 50, 51, 52, 53, 54, 55, 56, 57, 97, 98, 99, 100, 101, 102]⟩ : ByteArray) ((vn : Int) % 16) = y2 := hy2 ▸ lift_fin (f := fun y => bt (⟨#[48, 49, 50, 51, 52, 53, 54, 55, 56, 57, 97, 98, 99, 100, 101, 102]⟩ : ByteArray) y) (g := hexD) hz _ (by omega) (by omega)
              have HE : Aside0 (put2 (vn : Int) = [92, 117, 48, 48, y1, y2]) := ⟨by
                unfold put2 put1
                rw [if_pos (by omega), if_neg (by rw [hc]; simp), if_pos h32, hy1, hy2]⟩
              have hand15 : Go.bits .and .i32 (vn : Int) 15 = (vn : Int) % 16 := lift_fin (f := fun y => Go.bits .and .i32 y 15) (g := fun y => y % 16) and15 _ (by omega) (by omega)
              have hx1 := bt_at (⟨#[48, 49, 50, 51, 52, 53, 54, 55, 56, 57, 97, 98, 99, 100, 101, 102]⟩ : ByteArray) ((vn : Int) / 16)
              have hx2 := bt_at (⟨#[48, 49, 50, 51, 52, 53, 54, 55, 56, 57, 97, 98, 99, 100, 101, 102]⟩ : ByteArray) ((vn : Int) % 16)
              rw [z1] at hx1
              rw [z2] at hx2
              have p1 : (0 ≤ ((vn : Int) / 16)) = True := eq_true (by omega)
              have q1 : ((vn : Int) / 16 < (16 : Int)) = True := eq_true (by omega)
              have p2 : (0 ≤ ((vn : Int) % 16)) = True := eq_true (by omega)
              have q2 : ((vn : Int) % 16 < (16 : Int)) = True := eq_true (by omega)
              rw [hc]
              clear hc z1 z2 hz hy1 hy2
              go_wp2_with fail
              have hszA : w.heap.size ≤ (w3.alloc (.cells #[.int .u8 92, .int .u8 117, .int .u8 48, .int .u8 48, .int .u8 y1, .int .u8 y2] 5)).heap.size := by simp; omega
              go_region_held3 (fun w' => True) (trivial)
                ((refine oper_append (OwnS.alloc (OwnS.keep HO3.out (fun _ _ => rfl)) _) (NumsAt.lit _ [92, 117, 48, 48, y1, y2] 5) Tryd.underlying33 info8p rfl rfl rfl rfl rfl (fun e => by cases e) (by have := HL.out; simp [maxLen]; omega) (by have := HL.out; simp; omega) (by simp; omega) ?_; intro v5 w5 ho5 hg5 hat hkp))
              all_goals
                have HO5 : Aside0 (OwnL w5 w.heap.size v5 (out ++ put2 (vn : Int))) := ⟨by rw [HE.out]; exact OwnL.app ho5⟩
                have hc5 : Chg (fun b => some b = (Value.slice x4 out.length c4).ownBlock) w3 w5 := ((Chg.of_below ((bel_drewN (Below.refl _ _) _).alloc (by simp) _)).trans (Chg.grown hg5))
                have HI5 := Aside0.mk ((hc5.block B0 hsz3 (fun e => HNB.out e.symm)).trans HI3.out)
                have HB5 := Aside0.mk (Chg.below HB3.out hc5 hszw3 (fun b e => (OwnS.lt HO3.out b e.symm).1))
                have HNB5 : Aside0 (v5.ownBlock ≠ some B0) := ⟨by
                  rcases hat with h | h
                  · rw [h]; exact HNB.out
                  · rw [h]; intro e; simp at e; omega⟩
                clear ho5 hg5 hat hkp hc5
                generalize out ++ put2 (vn : Int) = out5 at *
                go_wp2_with fail
                refine ⟨⟨pos + n, _, by omega, HVN.out, HDN.out, HI5.out, HO5.out, HNB5.out, HB5.out, HLN.out⟩, ?_⟩
                rw [iterPos_of HI5.out, HM.out]; omega
            · have d32 : decide ((vn : Int) < 32) = false := decide_eq_false h32
              have HE : Aside0 (put2 (vn : Int) = encR (vn : Int)) := ⟨by
                unfold put2
                by_cases h : (vn : Int) < 128
                · rw [if_pos h]; unfold put1 encR; rw [if_neg (by rw [hc]; simp), if_neg h32, if_pos h]
                · rw [if_neg h]⟩
              have HAP := Aside0.mk (append_calls (vn : Int) out HV2.out _ w.heap.size w3 HO3.out hszw3 (by have := HL.out; omega))
              rw [hc]
              clear hc h32
              go_wp2_with fail
              refine (HAP.out).mono ?_
              rintro e w5 ⟨u5, rfl, ho5, hc5, hm5⟩
              rw [← HE.out] at ho5
              have HO5 := Aside0.mk ho5
              have HNB5 := Aside0.mk (hm5.ne HNB.out hsz3)
              have HI5 := Aside0.mk ((hc5.block B0 hsz3 (fun e => HNB.out e.symm)).trans HI3.out)
              have HB5 := Aside0.mk (Chg.below HB3.out hc5 hszw3 (fun b e => (OwnS.lt HO3.out b e.symm).1))
              clear ho5 hc5 hm5
              obtain ⟨x5, c5, rfl⟩ := OwnS.form HO5.out
              generalize out ++ put2 (vn : Int) = out5 at *
              go_wp2_with fail
              refine ⟨⟨pos + n, _, by omega, HVN.out, HDN.out, HI5.out, HO5.out, HNB5.out, HB5.out, HLN.out⟩, ?_⟩
              rw [iterPos_of HI5.out, HM.out]; omega
          · have h128 : (vn : Int) < 128 := by
              by_cases h : (vn : Int) < 128
              · exact h
              · exact absurd (short_high (by omega)) hc
            have hcb : (shortV (vn : Int) != 0) = true := bne_iff_ne.mpr hc
            have hcb2 : (shortV (vn : Int) == 0) = false := beq_eq_false_iff_ne.mpr hc
            have HE : Aside0 (put2 (vn : Int) = [92, shortV (vn : Int)]) := ⟨by unfold put2 put1; rw [if_pos h128, if_pos hc]⟩
            generalize shortV (vn : Int) = c at hcb hcb2 HE hc ⊢
            clear hc
            have hszA : w.heap.size ≤ (w3.alloc (.cells #[.int .u8 92, .int .u8 c] 5)).heap.size := by simp; omega
            have HOa := Aside0.mk (OwnS.alloc HO3.out (.cells #[.int .u8 92, .int .u8 c] 5))
            go_wp2_with (refine step_append HOa.out (NumsAt.lit _ [92, c] 5) Tryd.underlying33 info8p rfl rfl rfl rfl rfl (fun e => by cases e) (by have := HL.out; simp [maxLen]; omega) (by have := HL.out; simp; omega) hszA ?_; intro v5 w5 ho5 hg5 hat _; have HG5 := Aside0.mk hg5; have HAT := Aside0.mk hat; have HO5 := Aside0.mk (OwnL.app (M := [92, c]) ho5); clear ho5 hg5 hat)
            rw [← HE.out] at HO5
            have hc5 : Chg (fun b => some b = (Value.slice x4 out.length c4).ownBlock) w3 w5 := ((Chg.of_below ((Below.refl _ _).alloc (Nat.le_refl _) _)).trans (Chg.grown HG5.out))
            have HI5 := Aside0.mk ((hc5.block B0 hsz3 (fun e => HNB.out e.symm)).trans HI3.out)
            have HB5 := Aside0.mk (Chg.below HB3.out hc5 hszw3 (fun b e => (OwnS.lt HO3.out b e.symm).1))
            have HNB5 : Aside0 (v5.ownBlock ≠ some B0) := ⟨by
              rcases HAT.out with h | h
              · rw [h]; exact HNB.out
              · rw [h]; intro e; simp at e; omega⟩
            refine ⟨⟨pos + n, _, by omega, HVN.out, HDN.out, HI5.out, HO5.out, HNB5.out, HB5.out, HLN.out⟩, ?_⟩
            rw [iterPos_of HI5.out, HM.out]; omega
      · have hnx := fun ty => Lib.run_next_end_at (P := Tryd.prog) wr B0 s pos ty HI.out hp
        have hnil : (bytesOf s).drop pos = [] := List.drop_eq_nil_of_le (by rw [bytesOf_length]; omega)
        have HF : Aside0 (34 :: putL (bytesOf s) = out) := ⟨by
          have := HD.out
          rw [hnil] at this
          rw [this]
          show out ++ [] = out
          rw [List.append_nil]⟩
        have hszw : w.heap.size ≤ wr.heap.size := HB.out.size
        clear hnil
        obtain ⟨x4, c4, rfl⟩ := OwnS.form HO.out
        have hszA : w.heap.size ≤ (wr.alloc (.cells #[.int .u8 34] 5)).heap.size := by simp; omega
        have HOa := Aside0.mk (OwnS.alloc HO.out (.cells #[.int .u8 34] 5))
        have HBa := Aside0.mk (HB.out.alloc hszw (.cells #[.int .u8 34] 5))
        go_wp2_with (refine step_append HOa.out (NumsAt.lit _ [34] 5) Tryd.underlying33 info8p rfl rfl rfl rfl rfl (fun e => by cases e) (by have := HL.out; simp [maxLen]; omega) (by have := HL.out; simp; omega) hszA ?_; intro v5 w5 ho5 hg5 hat _; have hcv := OwnL.str (OwnL.app (M := [34]) ho5); have HB5 := Aside0.mk (grown_bel HBa.out hg5 hszA (fun b hb => (HOa.out.lt b hb).1)); clear ho5 hg5 hat)
        go_ret2
        refine ⟨?_, HB5.out⟩
        rw [HA.out, HF.out]
        rfl
end Go.Proofs.YtfpgjkaaadnmcaaDoor.P
