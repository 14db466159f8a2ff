/- A whole row's store in a drawn region; the law's words over numbers. -/
import Derived.Test.YthonoagpiofojaaA6
import Derived.Test.YthonoagpiofojaaL1
namespace Go.Proofs.Ythonoagpiofojaa.P
set_option linter.unusedVariables false
set_option linter.unusedSimpArgs false
open Go.RowKit Go.Proofs.YthonoagpiofojaaW.PrintWords Go.Proofs.YthonoagpiofojaaW.PrintLast Go.Proofs.YthonoagpiofojaaW.PrintMore
theorem oper_storeG {P : Program} {o : Oper} {ops : Array Oper} {a : Act} {w : World} {K : Act → World → Prop} {Q : Exit → Act → World → Prop} {k : IntKind} {n : Nat} {f : Nat → Int} {t ty : TypeId} {x y : Operand} {g : Nat}
    (f' : Nat → Int) (hr : Row w g k n f t) (hi : (P.info? ty).map (·.size) = some n) (hw : Region.wanted o (yielded ops a.tmps) = true) (hdst : o.dst = none) (ho : o.op = .store ty x y) (hx : a.eval x = .pointer (some ⟨g, 0, none⟩)) (hy : a.eval y = .agg (FR k n f'))
    (h : ∀ w', Stored w w' g → Row w' g k n f' t → K a w') : if Region.wanted o (yielded ops a.tmps) = true then Oper.wp P o a w K Q else K (a.put none undef) w := by
  rw [if_pos hw]
  obtain ⟨ie, hie, hs⟩ : ∃ ie, P.info? ty = some ie ∧ ie.size = n := by
    cases he : P.info? ty with
    | none => rw [he] at hi; cases hi
    | some ie => rw [he] at hi; exact ⟨ie, rfl, Option.some.inj hi⟩
  unfold Oper.wp execOp
  simp only [ho, hx, hy, Instr.storeAt, Instr.sureAddr, Sem.run_bind, Sem.run_pure, Result.andThen_ok, run_storeVar_row ty ie hie g t (FR k n f) (FR k n f') w hr (by rw [FR_size, FR_size]) (by rw [FR_size, hs]) (FR_one k n f')]
  have := h _ ⟨fun k hk => setCells_other hk _ _ _, setCells_size g _ _ _, fun B W hB hb => bel_setCells hB _ _ _ hb⟩ (Row.all hr)
  show K (a.put o.dst undef) _
  rw [hdst]
  exact this
theorem is_true_of (f g : Nat → Int) (n : Int) (hf : Fe f n) (hg : Re g n) (w : World) : Calls Try.prog 14 #[.agg (FR .u64 5 f), .agg (FR .i64 16 g)] w fun e w' => e = .returned (.bool true) ∧ Below w.heap.size w w' :=
  law_is_true f g hf.1 hg.1.cb (by rw [hf.2, hg.2]) w
end Go.Proofs.Ythonoagpiofojaa.P
