-- Written by wip/tools/myprint.py of this session, over the kit's printer. Not trusted: Lean checks it.
import Derived.Test.YtboelmakccaenaaG0
import Derived.Test.YtboelmakccaenaaG39
import Derived.Test.YtboelmakccaenaaU4
namespace Go.Proofs.Ytboelmakccaenaa.P
open Go.RowKit Go.Proofs.YtboelmakccaenaaW.PrintWords Go.Proofs.YtboelmakccaenaaW.PrintLast Go.Proofs.YtboelmakccaenaaW.PrintMore
attribute [local go_sem] max2_int min2_int max_two min_two max_three min_three max_four min_four   -- for this text's walks alone
set_option linter.unusedVariables false
set_option linter.unusedSimpArgs false

/-! ### hustingslaw10_IdentRooms: function 14 -/
def hustingslaw10_IdentRooms.j0 : Nat → ByteArray → Bool → Option (Bool)
  | 0, _, _ => none
  | k + 1, x0, x7 => if x7 = true then (some false) else (if (x0.size : Int) > 1024 then (some true) else ((ident_Room.f x0).bind fun t14003 => ((hustingsref10_Room.f k x0).bind fun t14004 => (some (t14003 == t14004)))))
def hustingslaw10_IdentRooms.f (k : Nat) (a0 : ByteArray) : Option (Bool) := (ident_Room.f (⟨#[33, 82, 58, 97, 46, 111, 114, 103]⟩ : ByteArray)).bind fun t14001 => (if t14001 = true then ((ident_Room.f (⟨#[82, 58, 97, 46, 111, 114, 103]⟩ : ByteArray)).bind fun t14002 => (hustingslaw10_IdentRooms.j0 k a0 t14002)) else (hustingslaw10_IdentRooms.j0 k a0 true))
theorem hustingslaw10_IdentRooms.mono_l : ∀ k, (∀ y0 y1, LeO (hustingslaw10_IdentRooms.j0 k y0 y1) (hustingslaw10_IdentRooms.j0 (k + 1) y0 y1))
  | 0 => fun _ _ r h => by simp [hustingslaw10_IdentRooms.j0] at h
  | k + 1 => by
    have ih0 := hustingslaw10_IdentRooms.mono_l k
    · intro y0 y1
      unfold hustingslaw10_IdentRooms.j0
      repeat' first
      | (with_reducible exact ih0 _ _)
      | (with_reducible exact hustingsref10_Room.mono _ _)
      | (with_reducible exact LeO.refl _)
      | (with_reducible exact LeO.none _)
      | (with_reducible refine LeO.ite ?_ ?_)
      | (with_reducible refine LeO.bind ?_ (fun _ => ?_))
      | exact ih0 _ _
      | exact hustingsref10_Room.mono _ _
      | exact LeO.none _
      | refine LeO.ite ?_ ?_
      | refine LeO.bind ?_ (fun _ => ?_)
theorem hustingslaw10_IdentRooms.mono : ∀ a0 k, LeO (hustingslaw10_IdentRooms.f k a0) (hustingslaw10_IdentRooms.f (k + 1) a0) := by
  intro a0 k
  have ih0 := hustingslaw10_IdentRooms.mono_l k
  unfold hustingslaw10_IdentRooms.f
  repeat' first
      | (with_reducible exact ih0 _ _)
      | (with_reducible exact hustingsref10_Room.mono _ _)
      | (with_reducible exact LeO.refl _)
      | (with_reducible exact LeO.none _)
      | (with_reducible refine LeO.ite ?_ ?_)
      | (with_reducible refine LeO.bind ?_ (fun _ => ?_))
      | exact ih0 _ _
      | exact hustingsref10_Room.mono _ _
      | exact LeO.none _
      | refine LeO.ite ?_ ?_
      | refine LeO.bind ?_ (fun _ => ?_)
set_option maxHeartbeats 8000000 in
set_option maxRecDepth 100000 in
theorem hustingslaw10_IdentRooms.calls (k : Nat) (a0 : ByteArray) (r : Bool) (w : World) (h : hustingslaw10_IdentRooms.f k a0 = some r) :
    Calls Try.prog 14 #[.string a0] w fun e w' => e = .returned (.bool r) ∧ Below w.heap.size w w' := by
  have HB := Aside0.mk (Below.refl w.heap.size w)
  have H : ((ident_Room.f (⟨#[33, 82, 58, 97, 46, 111, 114, 103]⟩ : ByteArray)).bind fun t14001 => (if t14001 = true then ((ident_Room.f (⟨#[82, 58, 97, 46, 111, 114, 103]⟩ : ByteArray)).bind fun t14002 => (hustingslaw10_IdentRooms.j0 k a0 t14002)) else (hustingslaw10_IdentRooms.j0 k a0 true))) = some r := h
  clear h
  have HC2 := Aside0.mk H
  clear H
  go_enter Try.func14, Try.ntmps14
  go_upto_region 1 with (fail)
  go_cut [7] (fun v7 wc => ∃ (kq : Nat) (x7_1 : Bool), v7 = .bool x7_1 ∧ Aside0 (hustingslaw10_IdentRooms.j0 kq a0 x7_1 = some r) ∧ Aside0 (kq ≤ k) ∧ Aside0 (Below w.heap.size w wc))
  case first =>
    have H := HC2.out
    clear HC2
    replace H := Option.bind_eq_some_iff.mp H
    obtain ⟨t14001, A30, H⟩ := H
    replace H : (if t14001 = true then ((ident_Room.f (⟨#[82, 58, 97, 46, 111, 114, 103]⟩ : ByteArray)).bind fun t14002 => (hustingslaw10_IdentRooms.j0 k a0 t14002)) else (hustingslaw10_IdentRooms.j0 k a0 true)) = some r := H
    have A3 := Aside0.mk A30
    clear A30
    by_cases c4 : t14001 = true
    · subst c4
      have H1 : ((ident_Room.f (⟨#[82, 58, 97, 46, 111, 114, 103]⟩ : ByteArray)).bind fun t14002 => (hustingslaw10_IdentRooms.j0 k a0 t14002)) = some r := by rw [if_pos rfl] at H; exact H
      clear H
      have H := H1
      clear H1
      replace H := Option.bind_eq_some_iff.mp H
      obtain ⟨t14002, A50, H⟩ := H
      replace H : (hustingslaw10_IdentRooms.j0 k a0 t14002) = some r := H
      have A5 := Aside0.mk A50
      clear A50
      have H' := Aside0.mk H
      clear H
      go_wp2_with (first | ((with_reducible refine gate_callee (f := 38) rfl ?_); refine goesL_ (some 3) rfl rfl Try.func38 (by kernel_rfl) rfl #[.string (⟨#[33, 82, 58, 97, 46, 111, 114, 103]⟩ : ByteArray)] rfl (by (try simp only [List.map_toArray, List.map_cons, List.map_nil]); first | done | rfl | (simp only [List.length_drop, List.length_take]; rfl)) ?_; (with_reducible refine (ident_Room.calls (⟨#[33, 82, 58, 97, 46, 111, 114, 103]⟩ : ByteArray) true _ A3.out).mono ?_); rintro e w6 ⟨rfl, hb⟩; refine ⟨_, rfl, ?_⟩; have n0_ := Aside0.mk (below_step (by repeat (first | (with_reducible first | exact HB.out | apply below_alloc | apply pw_below_drewN | apply below_drew1) | exact HB.out)) hb); clear HB; have HB := n0_; clear n0_; (try clear hb); (try clear hb2); (try clear hk); (try clear hi)) | (go_at_call 38; (with_reducible refine (ident_Room.calls (⟨#[82, 58, 97, 46, 111, 114, 103]⟩ : ByteArray) t14002 _ A5.out).mono ?_); rintro e w7 ⟨rfl, hb⟩; have n0_ := Aside0.mk (below_step (by repeat (first | (with_reducible first | exact HB.out | apply below_alloc | apply pw_below_drewN | apply below_drew1) | exact HB.out)) hb); clear HB; have HB := n0_; clear n0_; (try clear hb); (try clear hb2); (try clear hk); (try clear hi)))
      go_meet
      case rel => exact ⟨_, (t14002), (by first | rfl | (simp; done) | (simp [*]; done)), H', ⟨by first | omega | exact Nat.le_refl _⟩, ⟨by repeat (first | (with_reducible first | exact HB.out | apply below_alloc | apply pw_below_drewN | apply below_drew1) | exact HB.out)⟩⟩
    · replace c4 := Bool.eq_false_iff.mpr c4
      subst c4
      have H1 : (hustingslaw10_IdentRooms.j0 k a0 true) = some r := by rw [if_neg (show ¬ (false = true) by decide)] at H; exact H
      clear H
      have H := H1
      clear H1
      have H' := Aside0.mk H
      clear H
      go_wp2_with (first | ((with_reducible refine gate_callee (f := 38) rfl ?_); refine goesL_ (some 3) rfl rfl Try.func38 (by kernel_rfl) rfl #[.string (⟨#[33, 82, 58, 97, 46, 111, 114, 103]⟩ : ByteArray)] rfl (by (try simp only [List.map_toArray, List.map_cons, List.map_nil]); first | done | rfl | (simp only [List.length_drop, List.length_take]; rfl)) ?_; (with_reducible refine (ident_Room.calls (⟨#[33, 82, 58, 97, 46, 111, 114, 103]⟩ : ByteArray) false _ A3.out).mono ?_); rintro e w8 ⟨rfl, hb⟩; refine ⟨_, rfl, ?_⟩; have n0_ := Aside0.mk (below_step (by repeat (first | (with_reducible first | exact HB.out | apply below_alloc | apply pw_below_drewN | apply below_drew1) | exact HB.out)) hb); clear HB; have HB := n0_; clear n0_; (try clear hb); (try clear hb2); (try clear hk); (try clear hi)))
      go_meet
      case rel => exact ⟨_, (true), (by first | rfl | (simp; done) | (simp [*]; done)), H', ⟨by first | omega | exact Nat.le_refl _⟩, ⟨by repeat (first | (with_reducible first | exact HB.out | apply below_alloc | apply pw_below_drewN | apply below_drew1) | exact HB.out)⟩⟩
  case rest =>
    clear HC2
    try clear c1
    try clear p2
    try clear c3
    try clear c4
    obtain ⟨kq, x7_1, rfl, HA, HJ1, HB⟩ := hcut
    cases kq with
    | zero => exact absurd HA.out (by simp [hustingslaw10_IdentRooms.j0])
    | succ kj1 =>
      have H := HA.out
      clear HA
      simp only [hustingslaw10_IdentRooms.j0] at H
      by_cases c9 : x7_1 = true
      · subst c9
        have H1 : (some false) = some r := by rw [if_pos rfl] at H; exact H
        clear H
        have H := H1
        clear H1
        obtain rfl := Option.some.inj H
        go_wp2
        go_ret
        exact ⟨by first | rfl | (simp [errW_none, errW_some] <;> rfl) | (simp [*, errW_none, errW_some] <;> rfl), by repeat (first | (with_reducible first | exact HB.out | apply below_alloc | apply pw_below_drewN | apply below_drew1) | exact HB.out)⟩
      · replace c9 := Bool.eq_false_iff.mpr c9
        subst c9
        have H1 : (if (a0.size : Int) > 1024 then (some true) else ((ident_Room.f a0).bind fun t14003 => ((hustingsref10_Room.f kj1 a0).bind fun t14004 => (some (t14003 == t14004))))) = some r := by rw [if_neg (show ¬ (false = true) by decide)] at H; exact H
        clear H
        have H := H1
        clear H1
        by_cases c10 : (a0.size : Int) > 1024
        · rw [if_pos c10] at H
          have c10b0 : decide (1024 < (a0.size : Int)) = true := decide_eq_true c10
          have c10b1 : decide (1024 < a0.size) = true := decide_eq_true (by omega)
          clear c10
          obtain rfl := Option.some.inj H
          go_wp2
          go_ret
          exact ⟨by first | rfl | (simp [errW_none, errW_some] <;> rfl) | (simp [*, errW_none, errW_some] <;> rfl), by repeat (first | (with_reducible first | exact HB.out | apply below_alloc | apply pw_below_drewN | apply below_drew1) | exact HB.out)⟩
        · rw [if_neg c10] at H
          have c10b0 : decide (1024 < (a0.size : Int)) = false := decide_eq_false c10
          have c10b1 : decide (1024 < a0.size) = false := decide_eq_false (by omega)
          clear c10
          replace H := Option.bind_eq_some_iff.mp H
          obtain ⟨t14003, A110, H⟩ := H
          replace H : ((hustingsref10_Room.f kj1 a0).bind fun t14004 => (some (t14003 == t14004))) = some r := H
          have A11 := Aside0.mk A110
          clear A110
          replace H := Option.bind_eq_some_iff.mp H
          obtain ⟨t14004, A120, H⟩ := H
          replace H : (some (t14003 == t14004)) = some r := H
          have A12 := Aside0.mk A120
          clear A120
          obtain rfl := Option.some.inj H
          go_wp2_with (first | (go_at_call 38; (with_reducible refine (ident_Room.calls a0 t14003 _ A11.out).mono ?_); rintro e w13 ⟨rfl, hb⟩; have n0_ := Aside0.mk (below_step (by repeat (first | (with_reducible first | exact HB.out | apply below_alloc | apply pw_below_drewN | apply below_drew1) | exact HB.out)) hb); clear HB; have HB := n0_; clear n0_; (try clear hb); (try clear hb2); (try clear hk); (try clear hi)) | (go_at_call 39; (with_reducible refine (hustingsref10_Room.calls kj1 a0 t14004 _ A12.out).mono ?_); rintro e w' ⟨rfl, ⟨nd, rfl⟩⟩))
          go_ret
          exact ⟨by first | rfl | (simp [errW_none, errW_some] <;> rfl) | (simp [*, errW_none, errW_some] <;> rfl), by repeat (first | (with_reducible first | exact HB.out | apply below_alloc | apply pw_below_drewN | apply below_drew1) | exact HB.out)⟩

/-- THE ONE PURE STATEMENT of hustingslaw10_IdentRooms: yours. -/
def hustingslaw10_IdentRooms.Pure : Prop := ∀ (a0 : ByteArray), a0.size ≤ 140737488351232 → ∃ k, hustingslaw10_IdentRooms.f k a0 = some true
theorem hustingslaw10_IdentRooms.walk (P : hustingslaw10_IdentRooms.Pure) (a0 : ByteArray) (w : World) (w0 : a0.size ≤ 140737488351232) :
    Calls Try.prog 14 #[.string a0] w fun e w' => e = .returned (.bool true) ∧ Below w.heap.size w w' := by
  obtain ⟨k, h⟩ := P a0 w0
  refine (hustingslaw10_IdentRooms.calls k a0 true w h).mono ?_
  rintro e w' ⟨rfl, hd⟩
  exact ⟨rfl, hd⟩

end Go.Proofs.Ytboelmakccaenaa.P
