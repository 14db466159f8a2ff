/- Bytes that the call owns, as lists; utf8.AppendRune, quote.short, by their walks. -/
import Derived.Test.YtfpgjkaaadnmcaaDoorQa
import Derived.Test.YtfpgjkaaadnmcaaDoorOw
namespace Go.Proofs.YtfpgjkaaadnmcaaDoor.P
set_option linter.unusedVariables false
set_option linter.unusedSimpArgs false
open Go.RowKit Go.Proofs.YtfpgjkaaadnmcaaDoorW.PrintWords Go.Proofs.YtfpgjkaaadnmcaaDoorW.PrintLast Go.Proofs.YtfpgjkaaadnmcaaDoorW.PrintMore
attribute [local go_sem] setCell_drewN
theorem info8p : (Tryd.prog.info? 5).map (fun i => (i.zero, i.size, i.bytes)) = some (some (.int .u8 0), 1, 1) := by kernel_rfl
theorem u8w (x : Int) : IntKind.u8.wrap x = x % 256 := rfl
/-- Between two worlds nothing has changed but the blocks of p and new ones. -/
structure Chg (p : Nat → Prop) (w w' : World) : Prop where
  os : w'.os = w.os
  tape : w'.tape = w.tape
  output : w'.output = w.output
  size : w.heap.size ≤ w'.heap.size
  block : ∀ b, b < w.heap.size → ¬ p b → w'.heap[b]? = w.heap[b]?
theorem Chg.trans {p : Nat → Prop} {a b c : World} (h : Chg p a b) (k : Chg p b c) : Chg p a c :=
  ⟨k.os.trans h.os, k.tape.trans h.tape, k.output.trans h.output, Nat.le_trans h.size k.size, fun i hi hp => (k.block i (Nat.lt_of_lt_of_le hi h.size) hp).trans (h.block i hi hp)⟩
theorem Chg.of_below {p : Nat → Prop} {w w' : World} (h : Below w.heap.size w w') : Chg p w w' := ⟨h.os, h.tape, h.output, h.size, fun b hb _ => h.block b hb⟩
theorem Chg.below {p : Nat → Prop} {B : Nat} {W w w' : World} (h : Below B W w) (k : Chg p w w') (hB : B ≤ w.heap.size) (hp : ∀ b, p b → B ≤ b) : Below B W w' :=
  ⟨k.os.trans h.os, k.tape.trans h.tape, k.output.trans h.output, Nat.le_trans h.size k.size, fun b hb => (k.block b (by omega) (fun q => by have := hp b q; omega)).trans (h.block b hb)⟩
theorem Chg.grown {w w' : World} {row : Option Nat} (h : w.grownBy w' row) : Chg (fun b => some b = row) w w' := ⟨h.os, h.tape, h.output, h.size, fun b hb hp => h.block b hb (fun e => hp e)⟩
theorem Chg.alloc {p : Nat → Prop} (w : World) (o : Obj) : Chg p w (w.alloc o) := .of_below ((Below.refl _ _).alloc (Nat.le_refl _) o)
theorem OwnS.form {e : TypeId} {k : IntKind} {w : World} {base n : Nat} {v : Value} {z : Nat → Int} (h : OwnS e k w base v n z) : ∃ a c, v = .slice a n c := by
  rcases h with ⟨rfl, rfl⟩ | ⟨g, o, cap, cur, rfl, _⟩
  · exact ⟨none, 0, rfl⟩
  · exact ⟨_, _, rfl⟩
/-- A slice of bytes that the call owns, as a list. -/
def OwnL (w : World) (base : Nat) (v : Value) (L : List Int) : Prop := OwnS 5 .u8 w base v L.length (fun j => L.getD j 0)
theorem OwnL.nil (w : World) (base : Nat) : OwnL w base (.slice none 0 0) [] := OwnS.nil _ _ _
theorem OwnL.app {w : World} {base : Nat} {v : Value} {L M : List Int} (h : OwnS 5 .u8 w base v (L.length + M.length) (fun j => if j < L.length then L.getD j 0 else M.getD (j - L.length) 0)) : OwnL w base v (L ++ M) := by
  unfold OwnL
  rw [List.length_append]
  exact h.congr fun j hj => by
    simp only [List.getD_eq_getElem?_getD]
    by_cases h1 : j < L.length
    · rw [if_pos h1, List.getElem?_append_left h1]
    · rw [if_neg h1, List.getElem?_append_right (by omega)]
theorem NumsAt.lit (w : World) (M : List Int) (t : TypeId) : NumsAt .u8 (w.alloc (.cells (M.map (Value.int .u8)).toArray t)) (some ⟨w.heap.size, 0, none⟩) M.length (fun j => M.getD j 0) :=
  .inr ⟨_, rfl, fun j hj => by
    rw [show (⟨w.heap.size, 0, none⟩ : Addr).add j = ⟨w.heap.size, 0 + j, none⟩ from Addr.add_lit .., Nat.zero_add, cell_of_row _ _ _ _ _ _ (heap_alloc_new w _)]
    simp [hj]⟩
/-- What becomes of the owner. -/
def Moves (u u' : Value) (w : World) : Prop := u'.ownBlock = u.ownBlock ∨ ∀ b, u'.ownBlock = some b → w.heap.size ≤ b
theorem bel_any (w : World) (o : Obj) : Below w.heap.size w (w.alloc o) := (Below.refl _ _).alloc (Nat.le_refl _) _
def AppPost (w : World) (B : Nat) (u : Value) (L : List Int) (e : Ending) (w' : World) : Prop := ∃ u', e = .returned u' ∧ OwnL w' B u' L ∧ Chg (fun b => some b = u.ownBlock) w w' ∧ Moves u u' w
theorem app_post {w w' : World} {o : Obj} {B : Nat} {u u' : Value} {L M : List Int} (ho : OwnS 5 .u8 w' B u' (L.length + M.length) (fun j => if j < L.length then L.getD j 0 else M.getD (j - L.length) 0)) (hg : (w.alloc o).grownBy w' u.ownBlock) (ha : u'.ownBlock = u.ownBlock ∨ u'.ownBlock = some (w.alloc o).heap.size) : AppPost w B u (L ++ M) (.returned u') w' :=
  ⟨u', rfl, OwnL.app ho, (Chg.alloc w o).trans (Chg.grown hg), ha.imp id fun h b hb => by rw [h] at hb; cases hb; simp⟩
theorem short_calls (r : Int) (w : World) (h : -2147483648 ≤ r ∧ r ≤ 2147483647) : Calls Tryd.prog 19 #[.int .i32 r] w fun e w' => e = .returned (.int .u8 (shortV r)) ∧ w' = w := by
  by_cases h1 : r = 34
  · subst h1; go_enter Tryd.func19, Tryd.ntmps19; go_wp2_with fail; go_ret; exact ⟨rfl, rfl⟩
  by_cases h2 : r = 92
  · subst h2; go_enter Tryd.func19, Tryd.ntmps19; go_wp2_with fail; go_ret; exact ⟨rfl, rfl⟩
  by_cases h3 : r = 8
  · subst h3; go_enter Tryd.func19, Tryd.ntmps19; go_wp2_with fail; go_ret; exact ⟨rfl, rfl⟩
  by_cases h4 : r = 9
  · subst h4; go_enter Tryd.func19, Tryd.ntmps19; go_wp2_with fail; go_ret; exact ⟨rfl, rfl⟩
  by_cases h5 : r = 10
  · subst h5; go_enter Tryd.func19, Tryd.ntmps19; go_wp2_with fail; go_ret; exact ⟨rfl, rfl⟩
  by_cases h6 : r = 12
  · subst h6; go_enter Tryd.func19, Tryd.ntmps19; go_wp2_with fail; go_ret; exact ⟨rfl, rfl⟩
  by_cases h7 : r = 13
  · subst h7; go_enter Tryd.func19, Tryd.ntmps19; go_wp2_with fail; go_ret; exact ⟨rfl, rfl⟩
  have e1 : (r == 34) = false := beq_eq_false_iff_ne.mpr h1
  have e2 : (r == 92) = false := beq_eq_false_iff_ne.mpr h2
  have e3 : (r == 8) = false := beq_eq_false_iff_ne.mpr h3
  have e4 : (r == 9) = false := beq_eq_false_iff_ne.mpr h4
  have e5 : (r == 10) = false := beq_eq_false_iff_ne.mpr h5
  have e6 : (r == 12) = false := beq_eq_false_iff_ne.mpr h6
  have e7 : (r == 13) = false := beq_eq_false_iff_ne.mpr h7
  have e : shortV r = 0 := by unfold shortV; rw [if_neg h1, if_neg h2, if_neg h3, if_neg h4, if_neg h5, if_neg h6, if_neg h7]
  rw [e]
  clear h1 h2 h3 h4 h5 h6 h7 e
  go_enter Tryd.func19, Tryd.ntmps19
  go_wp2_with fail
  go_ret
  exact ⟨rfl, rfl⟩
set_option maxHeartbeats 1000000 in
theorem appendNA_calls (v : Int) (L : List Int) (h : validR v) (h128 : 128 ≤ v) (u : Value) (B : Nat) (w : World) (ho : OwnL w B u L) (hB : B ≤ w.heap.size) (hl : L.length ≤ 1099511627776) :
    Calls Tryd.prog 24 #[u, .int .i32 v] w (AppPost w B u (L ++ encR v)) := by
  obtain ⟨x, c, rfl⟩ := OwnS.form ho
  unfold validR at h
  have hw : IntKind.u32.wrap v = v := by show v % 4294967296 = v; omega
  have e0 : 0 ≤ v := h.1
  have e1 : v ≤ 1114111 := h.2.1
  by_cases h2 : v < 2048
  · have a1 := lead 192 32 (v / 64) (by decide) (by omega) (by omega)
    have k1 : (v ≤ 2047) = True := eq_true (by omega)
    have eE : encR v = [192 + v / 64, 128 + v % 64] := by unfold encR; rw [if_neg (by omega), if_pos h2]
    rw [eE]
    have HO := Aside0.mk (OwnS.alloc ho (.cells #[.int .u8 (192 + v / 64), .int .u8 (128 + v % 64)] 5))
    have hB1 : B ≤ (w.alloc (.cells #[.int .u8 (192 + v / 64), .int .u8 (128 + v % 64)] 5)).heap.size := by simp; omega
    clear ho eE h
    go_enter Tryd.func24, Tryd.ntmps24
    go_wp2_with (refine step_append HO.out (NumsAt.lit w [192 + v / 64, 128 + v % 64] 5) Tryd.underlying33 info8p rfl rfl rfl rfl rfl (fun e => by cases e) (by simp [maxLen]; omega) (by simp; omega) hB1 ?_; intro v5 w5 ho5 hg5 hat _; have HP := Aside0.mk (app_post (M := [192 + v / 64, 128 + v % 64]) ho5 hg5 hat); clear ho5 hg5 hat)
    go_ret
    exact HP.out
  · have k1 : (v ≤ 2047) = False := eq_false (by omega)
    by_cases h3 : v < 55296
    · have a1 := lead 224 16 (v / 4096) (by decide) (by omega) (by omega)
      have k2 : (v < 55296) = True := eq_true h3
      have eE : encR v = [224 + v / 4096, 128 + v / 64 % 64, 128 + v % 64] := by unfold encR; rw [if_neg (by omega), if_neg h2, if_pos (by omega)]
      rw [eE]
      have HO := Aside0.mk (OwnS.alloc ho (.cells #[.int .u8 (224 + v / 4096), .int .u8 (128 + v / 64 % 64), .int .u8 (128 + v % 64)] 5))
      have hB1 : B ≤ (w.alloc (.cells #[.int .u8 (224 + v / 4096), .int .u8 (128 + v / 64 % 64), .int .u8 (128 + v % 64)] 5)).heap.size := by simp; omega
      clear ho eE h
      go_enter Tryd.func24, Tryd.ntmps24
      go_wp2_with (refine step_append HO.out (NumsAt.lit w [224 + v / 4096, 128 + v / 64 % 64, 128 + v % 64] 5) Tryd.underlying33 info8p rfl rfl rfl rfl rfl (fun e => by cases e) (by simp [maxLen]; omega) (by simp; omega) hB1 ?_; intro v5 w5 ho5 hg5 hat _; have HP := Aside0.mk (app_post (M := [224 + v / 4096, 128 + v / 64 % 64, 128 + v % 64]) ho5 hg5 hat); clear ho5 hg5 hat)
      go_ret
      exact HP.out
    · have k2 : (v < 55296) = False := eq_false h3
      have k3 : (57343 < v) = True := eq_true (by omega)
      by_cases h4 : v < 65536
      · have a1 := lead 224 16 (v / 4096) (by decide) (by omega) (by omega)
        have k4 : (v ≤ 65535) = True := eq_true (by omega)
        have eE : encR v = [224 + v / 4096, 128 + v / 64 % 64, 128 + v % 64] := by unfold encR; rw [if_neg (by omega), if_neg h2, if_pos (by omega)]
        rw [eE]
        have HO := Aside0.mk (OwnS.alloc ho (.cells #[.int .u8 (224 + v / 4096), .int .u8 (128 + v / 64 % 64), .int .u8 (128 + v % 64)] 5))
        have hB1 : B ≤ (w.alloc (.cells #[.int .u8 (224 + v / 4096), .int .u8 (128 + v / 64 % 64), .int .u8 (128 + v % 64)] 5)).heap.size := by simp; omega
        clear ho eE h
        go_enter Tryd.func24, Tryd.ntmps24
        go_wp2_with (refine step_append HO.out (NumsAt.lit w [224 + v / 4096, 128 + v / 64 % 64, 128 + v % 64] 5) Tryd.underlying33 info8p rfl rfl rfl rfl rfl (fun e => by cases e) (by simp [maxLen]; omega) (by simp; omega) hB1 ?_; intro v5 w5 ho5 hg5 hat _; have HP := Aside0.mk (app_post (M := [224 + v / 4096, 128 + v / 64 % 64, 128 + v % 64]) ho5 hg5 hat); clear ho5 hg5 hat)
        go_ret
        exact HP.out
      · have a1 := lead 240 8 (v / 262144) (by decide) (by omega) (by omega)
        have k4 : (v ≤ 65535) = False := eq_false (by omega)
        have k5 : (65535 < v) = True := eq_true (by omega)
        have k6 : (v ≤ 1114111) = True := eq_true e1
        have eE : encR v = [240 + v / 262144, 128 + v / 4096 % 64, 128 + v / 64 % 64, 128 + v % 64] := by unfold encR; rw [if_neg (by omega), if_neg h2, if_neg h4]
        rw [eE]
        have HO := Aside0.mk (OwnS.alloc ho (.cells #[.int .u8 (240 + v / 262144), .int .u8 (128 + v / 4096 % 64), .int .u8 (128 + v / 64 % 64), .int .u8 (128 + v % 64)] 5))
        have hB1 : B ≤ (w.alloc (.cells #[.int .u8 (240 + v / 262144), .int .u8 (128 + v / 4096 % 64), .int .u8 (128 + v / 64 % 64), .int .u8 (128 + v % 64)] 5)).heap.size := by simp; omega
        clear ho eE h
        go_enter Tryd.func24, Tryd.ntmps24
        go_wp2_with (refine step_append HO.out (NumsAt.lit w [240 + v / 262144, 128 + v / 4096 % 64, 128 + v / 64 % 64, 128 + v % 64] 5) Tryd.underlying33 info8p rfl rfl rfl rfl rfl (fun e => by cases e) (by simp [maxLen]; omega) (by simp; omega) hB1 ?_; intro v5 w5 ho5 hg5 hat _; have HP := Aside0.mk (app_post (M := [240 + v / 262144, 128 + v / 4096 % 64, 128 + v / 64 % 64, 128 + v % 64]) ho5 hg5 hat); clear ho5 hg5 hat)
        go_ret
        exact HP.out
set_option maxHeartbeats 1000000 in
theorem append_calls (v : Int) (L : List Int) (h : validR v) (u : Value) (B : Nat) (w : World) (ho : OwnL w B u L) (hB : B ≤ w.heap.size) (hl : L.length ≤ 1099511627776) :
    Calls Tryd.prog 16 #[u, .int .i32 v] w (AppPost w B u (L ++ encR v)) := by
  by_cases h128 : v < 128
  · obtain ⟨x, c, rfl⟩ := OwnS.form ho
    unfold validR at h
    have hw : IntKind.u32.wrap v = v := by show v % 4294967296 = v; omega
    have hw8 : IntKind.u8.wrap v = v := by show v % 256 = v; omega
    have e0 : 0 ≤ v := h.1
    have k1 : (v ≤ 127) = True := eq_true (by omega)
    have eE : encR v = [v] := by unfold encR; rw [if_pos h128]
    rw [eE]
    have HO := Aside0.mk (OwnS.alloc ho (.cells #[.int .u8 v] 5))
    have hB1 : B ≤ (w.alloc (.cells #[.int .u8 v] 5)).heap.size := by simp; omega
    clear ho eE h h128
    go_enter Tryd.func16, Tryd.ntmps16
    go_wp2_with (refine step_append HO.out (NumsAt.lit w [v] 5) Tryd.underlying33 info8p rfl rfl rfl rfl rfl (fun e => by cases e) (by simp [maxLen]; omega) (by simp; omega) hB1 ?_; intro v5 w5 ho5 hg5 hat _; have HP := Aside0.mk (app_post (M := [v]) ho5 hg5 hat); clear ho5 hg5 hat)
    go_ret
    exact HP.out
  · have HC := Aside0.mk (appendNA_calls v L h (by omega) u B w ho hB hl)
    obtain ⟨x, c, rfl⟩ := OwnS.form ho
    unfold validR at h
    have hw : IntKind.u32.wrap v = v := by show v % 4294967296 = v; omega
    have e0 : 0 ≤ v := h.1
    have k1 : (v ≤ 127) = False := eq_false (by omega)
    clear ho h h128
    go_enter Tryd.func16, Tryd.ntmps16
    go_wp2_with fail
    refine (HC.out).mono ?_
    rintro e w1 ⟨u', rfl, hp⟩
    have HP := Aside0.mk hp
    clear hp
    go_wp2_with fail
    go_ret
    exact ⟨u', rfl, HP.out⟩
end Go.Proofs.YtfpgjkaaadnmcaaDoor.P
