/- Words of 64 bits: turned, and the small functions of digest2 and of its document. -/
import Derived.Test.YtlopmjolahhpnaaDoorOw
import Derived.BigQuiet
namespace Go.Proofs.YtlopmjolahhpnaaDoor.P
set_option linter.unusedVariables false
set_option linter.unusedSimpArgs false
open Go.RowKit Go.Proofs.YtlopmjolahhpnaaDoorW.PrintWords Go.Proofs.YtlopmjolahhpnaaDoorW.PrintLast Go.Proofs.YtlopmjolahhpnaaDoorW.PrintMore
/-- A word turned: p, q: the powers of two of both ways. -/
def tn (p q x : Int) : Int := Go.bits .or .u64 (x / p) (IntKind.u64.wrap (x * q))
theorem bits_comm_or (x y : Int) : Go.bits .or .u64 x y = Go.bits .or .u64 y x := by
  unfold Go.bits
  simp only [BitVec.or_comm]
theorem rot1 (x : Int) (w : World) : Calls Tryd.prog 20 #[.int .u64 x, .int .i64 (-1)] w fun e w' => e = .returned (.int .u64 (tn 2 9223372036854775808 x)) ∧ w' = w := by
  have h1 : Go.bits .and .u64 (IntKind.u64.wrap (-1)) 63 = 63 := by kernel_rfl
  go_enter Tryd.func20, Tryd.ntmps20
  go_wp2_with fail
  go_ret
  refine ⟨?_, rfl⟩
  show Ending.returned (Value.int .u64 (Go.bits .or .u64 (IntKind.u64.wrap (x * 9223372036854775808)) (x / 2))) = _
  rw [bits_comm_or]; rfl
theorem turn1 (x : Int) (w : World) : Calls Tryd.prog 17 #[.int .u64 x, .int .u64 1] w fun e w' => e = .returned (.int .u64 (tn 2 9223372036854775808 x)) ∧ w' = w := by
  go_enter Tryd.func17, Tryd.ntmps17
  go_wp2_with fail
  go_ret
  exact ⟨rfl, rfl⟩
theorem rot8 (x : Int) (w : World) : Calls Tryd.prog 20 #[.int .u64 x, .int .i64 (-8)] w fun e w' => e = .returned (.int .u64 (tn 256 72057594037927936 x)) ∧ w' = w := by
  have h1 : Go.bits .and .u64 (IntKind.u64.wrap (-8)) 63 = 56 := by kernel_rfl
  go_enter Tryd.func20, Tryd.ntmps20
  go_wp2_with fail
  go_ret
  refine ⟨?_, rfl⟩
  show Ending.returned (Value.int .u64 (Go.bits .or .u64 (IntKind.u64.wrap (x * 72057594037927936)) (x / 256))) = _
  rw [bits_comm_or]; rfl
theorem turn8 (x : Int) (w : World) : Calls Tryd.prog 17 #[.int .u64 x, .int .u64 8] w fun e w' => e = .returned (.int .u64 (tn 256 72057594037927936 x)) ∧ w' = w := by
  go_enter Tryd.func17, Tryd.ntmps17
  go_wp2_with fail
  go_ret
  exact ⟨rfl, rfl⟩
theorem rot19 (x : Int) (w : World) : Calls Tryd.prog 20 #[.int .u64 x, .int .i64 (-19)] w fun e w' => e = .returned (.int .u64 (tn 524288 35184372088832 x)) ∧ w' = w := by
  have h1 : Go.bits .and .u64 (IntKind.u64.wrap (-19)) 63 = 45 := by kernel_rfl
  go_enter Tryd.func20, Tryd.ntmps20
  go_wp2_with fail
  go_ret
  refine ⟨?_, rfl⟩
  show Ending.returned (Value.int .u64 (Go.bits .or .u64 (IntKind.u64.wrap (x * 35184372088832)) (x / 524288))) = _
  rw [bits_comm_or]; rfl
theorem turn19 (x : Int) (w : World) : Calls Tryd.prog 17 #[.int .u64 x, .int .u64 19] w fun e w' => e = .returned (.int .u64 (tn 524288 35184372088832 x)) ∧ w' = w := by
  go_enter Tryd.func17, Tryd.ntmps17
  go_wp2_with fail
  go_ret
  exact ⟨rfl, rfl⟩
theorem rot61 (x : Int) (w : World) : Calls Tryd.prog 20 #[.int .u64 x, .int .i64 (-61)] w fun e w' => e = .returned (.int .u64 (tn 2305843009213693952 8 x)) ∧ w' = w := by
  have h1 : Go.bits .and .u64 (IntKind.u64.wrap (-61)) 63 = 3 := by kernel_rfl
  go_enter Tryd.func20, Tryd.ntmps20
  go_wp2_with fail
  go_ret
  refine ⟨?_, rfl⟩
  show Ending.returned (Value.int .u64 (Go.bits .or .u64 (IntKind.u64.wrap (x * 8)) (x / 2305843009213693952))) = _
  rw [bits_comm_or]; rfl
theorem turn61 (x : Int) (w : World) : Calls Tryd.prog 17 #[.int .u64 x, .int .u64 61] w fun e w' => e = .returned (.int .u64 (tn 2305843009213693952 8 x)) ∧ w' = w := by
  go_enter Tryd.func17, Tryd.ntmps17
  go_wp2_with fail
  go_ret
  exact ⟨rfl, rfl⟩
theorem rot14 (x : Int) (w : World) : Calls Tryd.prog 20 #[.int .u64 x, .int .i64 (-14)] w fun e w' => e = .returned (.int .u64 (tn 16384 1125899906842624 x)) ∧ w' = w := by
  have h1 : Go.bits .and .u64 (IntKind.u64.wrap (-14)) 63 = 50 := by kernel_rfl
  go_enter Tryd.func20, Tryd.ntmps20
  go_wp2_with fail
  go_ret
  refine ⟨?_, rfl⟩
  show Ending.returned (Value.int .u64 (Go.bits .or .u64 (IntKind.u64.wrap (x * 1125899906842624)) (x / 16384))) = _
  rw [bits_comm_or]; rfl
theorem turn14 (x : Int) (w : World) : Calls Tryd.prog 17 #[.int .u64 x, .int .u64 14] w fun e w' => e = .returned (.int .u64 (tn 16384 1125899906842624 x)) ∧ w' = w := by
  go_enter Tryd.func17, Tryd.ntmps17
  go_wp2_with fail
  go_ret
  exact ⟨rfl, rfl⟩
theorem rot18 (x : Int) (w : World) : Calls Tryd.prog 20 #[.int .u64 x, .int .i64 (-18)] w fun e w' => e = .returned (.int .u64 (tn 262144 70368744177664 x)) ∧ w' = w := by
  have h1 : Go.bits .and .u64 (IntKind.u64.wrap (-18)) 63 = 46 := by kernel_rfl
  go_enter Tryd.func20, Tryd.ntmps20
  go_wp2_with fail
  go_ret
  refine ⟨?_, rfl⟩
  show Ending.returned (Value.int .u64 (Go.bits .or .u64 (IntKind.u64.wrap (x * 70368744177664)) (x / 262144))) = _
  rw [bits_comm_or]; rfl
theorem turn18 (x : Int) (w : World) : Calls Tryd.prog 17 #[.int .u64 x, .int .u64 18] w fun e w' => e = .returned (.int .u64 (tn 262144 70368744177664 x)) ∧ w' = w := by
  go_enter Tryd.func17, Tryd.ntmps17
  go_wp2_with fail
  go_ret
  exact ⟨rfl, rfl⟩
theorem rot41 (x : Int) (w : World) : Calls Tryd.prog 20 #[.int .u64 x, .int .i64 (-41)] w fun e w' => e = .returned (.int .u64 (tn 2199023255552 8388608 x)) ∧ w' = w := by
  have h1 : Go.bits .and .u64 (IntKind.u64.wrap (-41)) 63 = 23 := by kernel_rfl
  go_enter Tryd.func20, Tryd.ntmps20
  go_wp2_with fail
  go_ret
  refine ⟨?_, rfl⟩
  show Ending.returned (Value.int .u64 (Go.bits .or .u64 (IntKind.u64.wrap (x * 8388608)) (x / 2199023255552))) = _
  rw [bits_comm_or]; rfl
theorem turn41 (x : Int) (w : World) : Calls Tryd.prog 17 #[.int .u64 x, .int .u64 41] w fun e w' => e = .returned (.int .u64 (tn 2199023255552 8388608 x)) ∧ w' = w := by
  go_enter Tryd.func17, Tryd.ntmps17
  go_wp2_with fail
  go_ret
  exact ⟨rfl, rfl⟩
theorem rot28 (x : Int) (w : World) : Calls Tryd.prog 20 #[.int .u64 x, .int .i64 (-28)] w fun e w' => e = .returned (.int .u64 (tn 268435456 68719476736 x)) ∧ w' = w := by
  have h1 : Go.bits .and .u64 (IntKind.u64.wrap (-28)) 63 = 36 := by kernel_rfl
  go_enter Tryd.func20, Tryd.ntmps20
  go_wp2_with fail
  go_ret
  refine ⟨?_, rfl⟩
  show Ending.returned (Value.int .u64 (Go.bits .or .u64 (IntKind.u64.wrap (x * 68719476736)) (x / 268435456))) = _
  rw [bits_comm_or]; rfl
theorem turn28 (x : Int) (w : World) : Calls Tryd.prog 17 #[.int .u64 x, .int .u64 28] w fun e w' => e = .returned (.int .u64 (tn 268435456 68719476736 x)) ∧ w' = w := by
  go_enter Tryd.func17, Tryd.ntmps17
  go_wp2_with fail
  go_ret
  exact ⟨rfl, rfl⟩
theorem rot34 (x : Int) (w : World) : Calls Tryd.prog 20 #[.int .u64 x, .int .i64 (-34)] w fun e w' => e = .returned (.int .u64 (tn 17179869184 1073741824 x)) ∧ w' = w := by
  have h1 : Go.bits .and .u64 (IntKind.u64.wrap (-34)) 63 = 30 := by kernel_rfl
  go_enter Tryd.func20, Tryd.ntmps20
  go_wp2_with fail
  go_ret
  refine ⟨?_, rfl⟩
  show Ending.returned (Value.int .u64 (Go.bits .or .u64 (IntKind.u64.wrap (x * 1073741824)) (x / 17179869184))) = _
  rw [bits_comm_or]; rfl
theorem turn34 (x : Int) (w : World) : Calls Tryd.prog 17 #[.int .u64 x, .int .u64 34] w fun e w' => e = .returned (.int .u64 (tn 17179869184 1073741824 x)) ∧ w' = w := by
  go_enter Tryd.func17, Tryd.ntmps17
  go_wp2_with fail
  go_ret
  exact ⟨rfl, rfl⟩
theorem rot39 (x : Int) (w : World) : Calls Tryd.prog 20 #[.int .u64 x, .int .i64 (-39)] w fun e w' => e = .returned (.int .u64 (tn 549755813888 33554432 x)) ∧ w' = w := by
  have h1 : Go.bits .and .u64 (IntKind.u64.wrap (-39)) 63 = 25 := by kernel_rfl
  go_enter Tryd.func20, Tryd.ntmps20
  go_wp2_with fail
  go_ret
  refine ⟨?_, rfl⟩
  show Ending.returned (Value.int .u64 (Go.bits .or .u64 (IntKind.u64.wrap (x * 33554432)) (x / 549755813888))) = _
  rw [bits_comm_or]; rfl
theorem turn39 (x : Int) (w : World) : Calls Tryd.prog 17 #[.int .u64 x, .int .u64 39] w fun e w' => e = .returned (.int .u64 (tn 549755813888 33554432 x)) ∧ w' = w := by
  go_enter Tryd.func17, Tryd.ntmps17
  go_wp2_with fail
  go_ret
  exact ⟨rfl, rfl⟩
/-- A word turned, by the number that RotateLeft64 is given. -/
def tk (k x : Int) : Int := if k = -1 then tn 2 9223372036854775808 x else if k = -8 then tn 256 72057594037927936 x else if k = -19 then tn 524288 35184372088832 x else if k = -61 then tn 2305843009213693952 8 x else if k = -14 then tn 16384 1125899906842624 x else if k = -18 then tn 262144 70368744177664 x else if k = -41 then tn 2199023255552 8388608 x else if k = -28 then tn 268435456 68719476736 x else if k = -34 then tn 17179869184 1073741824 x else tn 549755813888 33554432 x
theorem rotk (k x : Int) (w : World) (h : k = -14 ∨ k = -18 ∨ k = -41 ∨ k = -28 ∨ k = -34 ∨ k = -39) : Calls Tryd.prog 20 #[.int .u64 x, .int .i64 k] w fun e w' => e = .returned (.int .u64 (tk k x)) ∧ w' = w := by
  rcases h with rfl | rfl | rfl | rfl | rfl | rfl
  · exact rot14 x w
  · exact rot18 x w
  · exact rot41 x w
  · exact rot28 x w
  · exact rot34 x w
  · exact rot39 x w
def x3 (a b c : Int) : Int := Go.bits .xor .u64 (Go.bits .xor .u64 a b) c
def bige (x : Int) : Int := x3 (tk (-14) x) (tk (-18) x) (tk (-41) x)
theorem threee (x : Int) (w : World) : Calls Tryd.prog 18 #[.int .u64 x, .int .u64 14, .int .u64 18, .int .u64 41] w fun e w' => e = .returned (.int .u64 (bige x)) ∧ w' = w := by
  go_enter Tryd.func18, Tryd.ntmps18
  go_wp2_with fail
  refine (turn14 x w).mono ?_
  rintro e w1 ⟨rfl, rfl⟩
  go_wp2_with fail
  refine (turn18 x _).mono ?_
  rintro e w1 ⟨rfl, rfl⟩
  go_wp2_with fail
  refine (turn41 x _).mono ?_
  rintro e w1 ⟨rfl, rfl⟩
  go_wp2_with fail
  go_ret
  exact ⟨rfl, rfl⟩
def biga (x : Int) : Int := x3 (tk (-28) x) (tk (-34) x) (tk (-39) x)
theorem threea (x : Int) (w : World) : Calls Tryd.prog 18 #[.int .u64 x, .int .u64 28, .int .u64 34, .int .u64 39] w fun e w' => e = .returned (.int .u64 (biga x)) ∧ w' = w := by
  go_enter Tryd.func18, Tryd.ntmps18
  go_wp2_with fail
  refine (turn28 x w).mono ?_
  rintro e w1 ⟨rfl, rfl⟩
  go_wp2_with fail
  refine (turn34 x _).mono ?_
  rintro e w1 ⟨rfl, rfl⟩
  go_wp2_with fail
  refine (turn39 x _).mono ?_
  rintro e w1 ⟨rfl, rfl⟩
  go_wp2_with fail
  go_ret
  exact ⟨rfl, rfl⟩
def sma (x : Int) : Int := x3 (tn 2 9223372036854775808 x) (tn 256 72057594037927936 x) (x / 128)
def smb (x : Int) : Int := x3 (tn 524288 35184372088832 x) (tn 2305843009213693952 8 x) (x / 64)
end Go.Proofs.YtlopmjolahhpnaaDoor.P
