/- The row of the law hustings/hustingslaw19.SpoolDoes, over its walk. -/
import Derived.Test.YtdleomeiojlooaaRows
import Derived.Test.YtdleomeiojlooaaYc6
import Derived.WalkKit
import Derived.ProofKit
import Derived.OpenShut
import Derived.ShutString
import Derived.ChangeOld
import Derived.Below
import Derived.SizedLaws
namespace Go.Proofs.Ytdleomeiojlooaa.spoolDoes
open Go.ChangeShapes Go.WideShapes Go.ChangeAt Go.RowKit
open Go.ChangeMaps (open_string shut_string)
set_option linter.unusedVariables false
theorem own : ownKnob Try.prog.godebug = none := by kernel_rfl
theorem laidOut : laidOutB Try.prog = true := by kernel_rfl
def IsRow (k : IntKind) (w : World) (a : Option Addr) (len cap : Nat) (zs : List Int) : Prop :=
  (a = none ∧ len = 0 ∧ cap = 0 ∧ zs = []) ∨
  ∃ x, a = some x ∧ len ≤ cap ∧ cap ≤ maxLen ∧ zs.length = cap ∧ (∀ i, i < zs.length → w.cell? (x.add i) = some (.int k (zs.getD i 0))) ∧ ∀ n ∈ zs, (Lit.int k n).wf = true
set_option maxRecDepth 100000 in
theorem lifted (os : Os) (started : os.Started) (H : Type) (enc : TypeId × Value → H) :
    ReturnsInHanded {} Try.checked os 7 .any (Rows.spoolDoesSpec.pre6 enc Try.prog Try.f7 Rows.spoolDoesRow.domain false) (Rows.spoolDoesSpec.post enc Try.prog Try.f7 false true false false) := by
  refine returnsInHanded_of_change_sized (C := Try.checked) own started (by kernel_rfl) Try.func7
    (ChangeSpec.witness6 (enc := enc) (C := Try.checked) false ⟨#[], #[.string ByteArray.empty, .slice none 0 0], []⟩ 8 (by kernel_rfl) (by kernel_rfl) (by kernel_rfl) (by kernel_rfl)) ?_
  intro W base args ds gs before hval0 hW hcnd hsz0 _
  have hsz : (DataW.weightsEach Try.prog (Try.f7.params.toList ++ Rows.spoolDoesSpec.plain.varTypes Try.prog) (ds ++ gs)).all (· ≤ reachBytes) = true := hsz0
  have hval : ∀ (j : Nat) t v, Try.f7.params[j]? = some t → args[j]? = some v → Value.okWide Try.prog W .any base t v := hval0
  have hW' := hW
  obtain ⟨p, q, hA0, hV, rfl, hfz, hnd⟩ := hW
  have hA : DataW.TrodAll enc Try.prog W 0 (fun _ => true) true Try.f7.params.toList args.toList ds p := hA0
  rw [Try.params7] at hA hval hsz
  obtain ⟨v0, vs0, d0, ds0, p0, q0, hargs, rfl, rfl, h0, r0⟩ := trodAll_cons hA
  obtain ⟨v1, vs1, d1, ds1, p1, q1, rfl, rfl, rfl, h1, r1⟩ := trodAll_cons r0
  obtain ⟨rfl, rfl, rfl⟩ := trodAll_nil r1
  obtain rfl : args = #[v0, v1] := by cases args; simp_all
  obtain ⟨rfl, rfl⟩ := trodVars_none hV
  obtain ⟨a0, rfl, rfl, rfl, y0⟩ := open_string Try.underlying9 (hval 0 9 v0 rfl rfl) h0
  have w0 : a0.size ≤ 140737488351232 := by
    have z := sized_string hsz (j := 0) (t := 9) rfl rfl
    rw [Array.length_toList] at z
    exact z
  have k1 := h1
  have lt1 : ∀ x ∈ p1, x.block < W.heap.size := by obtain ⟨m, hm⟩ := k1; exact DataW.trod_lt m _ _ _ hm
  obtain ⟨a1, len1, cap1, l1, rfl, w1⟩ := P.open_list P.k49 P.CallOk hsz (j := 1) rfl rfl Try.underlying44 (by kernel_rfl) (of_decide_eq_true (by kernel_rfl)) (hval 1 44 v1 rfl rfl) h1 (P.each_call Try.underlying49 Try.underlying3 Try.underlying9 (by kernel_rfl) (by kernel_rfl) (by kernel_rfl) (by kernel_rfl))
  clear hA0 hval0 hsz0 hsz
  refine (P.SpoolDoes_walk a0 a1 len1 cap1 l1 W  w0 w1).mono fun e W' ⟨he, bel⟩ => ?_
  subst he
  exact ⟨_, rfl, _, _, _, [], _, [], hW', trodAll_mk1 (shut_bool Try.underlying4 _), (trodAll_cons_mk (shut_string Try.underlying9 y0) (trodAll_cons_mk (Below.trod laidOut (by kernel_rfl) (of_decide_eq_true (by kernel_rfl)) k1 bel lt1) trodAll_mk0)), rfl, bel.frame _, fun h => by cases h⟩
theorem cl0 : (fun (P : Program) (f : FuncId) (fn : Func) (s : ChangeSpec) (c : OpenClaim) => c.wf (OpenSpec.ofChange s)) Try.prog 7 Try.f7 Rows.spoolDoesSpec Rows.spoolDoesRow = true := by kernel_rfl
theorem cl1 : (fun (P : Program) (f : FuncId) (fn : Func) (s : ChangeSpec) (c : OpenClaim) => laidOutB P) Try.prog 7 Try.f7 Rows.spoolDoesSpec Rows.spoolDoesRow = true := by kernel_rfl
theorem cl2 : (fun (P : Program) (f : FuncId) (fn : Func) (s : ChangeSpec) (c : OpenClaim) => mapsRowed P) Try.prog 7 Try.f7 Rows.spoolDoesSpec Rows.spoolDoesRow = true := by kernel_rfl
theorem cl3 : (fun (P : Program) (f : FuncId) (fn : Func) (s : ChangeSpec) (c : OpenClaim) => fn.params.all (P.readableRec ·)) Try.prog 7 Try.f7 Rows.spoolDoesSpec Rows.spoolDoesRow = true := by kernel_rfl
theorem cl4 : (fun (P : Program) (f : FuncId) (fn : Func) (s : ChangeSpec) (c : OpenClaim) => namedTie P c.named s.vars) Try.prog 7 Try.f7 Rows.spoolDoesSpec Rows.spoolDoesRow = true := by kernel_rfl
theorem cl5 : (fun (P : Program) (f : FuncId) (fn : Func) (s : ChangeSpec) (c : OpenClaim) => (c.stops == [])) Try.prog 7 Try.f7 Rows.spoolDoesSpec Rows.spoolDoesRow = true := by kernel_rfl
theorem cl6 : (fun (P : Program) (f : FuncId) (fn : Func) (s : ChangeSpec) (c : OpenClaim) => (P.stops == [])) Try.prog 7 Try.f7 Rows.spoolDoesSpec Rows.spoolDoesRow = true := by kernel_rfl
theorem cl7 : (fun (P : Program) (f : FuncId) (fn : Func) (s : ChangeSpec) (c : OpenClaim) => (c.knobs == [])) Try.prog 7 Try.f7 Rows.spoolDoesSpec Rows.spoolDoesRow = true := by kernel_rfl
theorem cl8 : (fun (P : Program) (f : FuncId) (fn : Func) (s : ChangeSpec) (c : OpenClaim) => (P.stopKnobs == [])) Try.prog 7 Try.f7 Rows.spoolDoesSpec Rows.spoolDoesRow = true := by kernel_rfl
theorem cl9 : (fun (P : Program) (f : FuncId) (fn : Func) (s : ChangeSpec) (c : OpenClaim) => (c.inPlace == P.inPlace f)) Try.prog 7 Try.f7 Rows.spoolDoesSpec Rows.spoolDoesRow = true := by kernel_rfl
theorem cl10 : (fun (P : Program) (f : FuncId) (fn : Func) (s : ChangeSpec) (c : OpenClaim) => (c.unfollowed == P.unfollowed f)) Try.prog 7 Try.f7 Rows.spoolDoesSpec Rows.spoolDoesRow = true := by kernel_rfl
theorem cl11 : (fun (P : Program) (f : FuncId) (fn : Func) (s : ChangeSpec) (c : OpenClaim) => (c.recurses == P.recurses f)) Try.prog 7 Try.f7 Rows.spoolDoesSpec Rows.spoolDoesRow = true := by kernel_rfl
theorem cl12 : (fun (P : Program) (f : FuncId) (fn : Func) (s : ChangeSpec) (c : OpenClaim) => (c.named == P.varsNamed f)) Try.prog 7 Try.f7 Rows.spoolDoesSpec Rows.spoolDoesRow = true := by kernel_rfl
theorem cl13 : (fun (P : Program) (f : FuncId) (fn : Func) (s : ChangeSpec) (c : OpenClaim) => (c.maps == (fn.params.toList ++ s.plain.varTypes P).any (P.mapsRec ·))) Try.prog 7 Try.f7 Rows.spoolDoesSpec Rows.spoolDoesRow = true := by kernel_rfl
theorem cl14 : (fun (P : Program) (f : FuncId) (fn : Func) (s : ChangeSpec) (c : OpenClaim) => (c.ifaces == (fn.params.toList ++ s.plain.varTypes P).any (P.ifacesRec ·))) Try.prog 7 Try.f7 Rows.spoolDoesSpec Rows.spoolDoesRow = true := by kernel_rfl
theorem cl15 : (fun (P : Program) (f : FuncId) (fn : Func) (s : ChangeSpec) (c : OpenClaim) => (c.mapsOut == P.mapsAmong fn.resultTypes.toList)) Try.prog 7 Try.f7 Rows.spoolDoesSpec Rows.spoolDoesRow = true := by kernel_rfl
theorem cl16 : (fun (P : Program) (f : FuncId) (fn : Func) (s : ChangeSpec) (c : OpenClaim) => (c.loops == (fn.params.toList ++ s.plain.varTypes P).any (P.loopsFrom ·))) Try.prog 7 Try.f7 Rows.spoolDoesSpec Rows.spoolDoesRow = true := by kernel_rfl
theorem cl17 : (fun (P : Program) (f : FuncId) (fn : Func) (s : ChangeSpec) (c : OpenClaim) => (c.wideKeys == (fn.params.toList ++ s.plain.varTypes P ++ fn.resultTypes.toList).any (P.wideKeysFrom ·))) Try.prog 7 Try.f7 Rows.spoolDoesSpec Rows.spoolDoesRow = true := by kernel_rfl
theorem cl18 : (fun (P : Program) (f : FuncId) (fn : Func) (s : ChangeSpec) (c : OpenClaim) => s.vars.all (P.varReadable ·)) Try.prog 7 Try.f7 Rows.spoolDoesSpec Rows.spoolDoesRow = true := by kernel_rfl
theorem cl19 : (fun (P : Program) (f : FuncId) (fn : Func) (s : ChangeSpec) (c : OpenClaim) => fn.resultTypes.all (fun t => P.readableRec t && decide (t < P.types.size))) Try.prog 7 Try.f7 Rows.spoolDoesSpec Rows.spoolDoesRow = true := by kernel_rfl
theorem cl20 : (fun (P : Program) (f : FuncId) (fn : Func) (s : ChangeSpec) (c : OpenClaim) => (c.ifacesOut == fn.resultTypes.toList.any (P.ifacesRec ·))) Try.prog 7 Try.f7 Rows.spoolDoesSpec Rows.spoolDoesRow = true := by kernel_rfl
theorem cl21 : (fun (P : Program) (f : FuncId) (fn : Func) (s : ChangeSpec) (c : OpenClaim) => (c.loopsOut == fn.resultTypes.toList.any (P.loopsFrom ·))) Try.prog 7 Try.f7 Rows.spoolDoesSpec Rows.spoolDoesRow = true := by kernel_rfl
theorem cl22 : (fun (P : Program) (f : FuncId) (fn : Func) (s : ChangeSpec) (c : OpenClaim) => (c.plainKeys == P.plainKeys)) Try.prog 7 Try.f7 Rows.spoolDoesSpec Rows.spoolDoesRow = true := by kernel_rfl
theorem cl23 : (fun (P : Program) (f : FuncId) (fn : Func) (s : ChangeSpec) (c : OpenClaim) => c.shortTexts.isNone) Try.prog 7 Try.f7 Rows.spoolDoesSpec Rows.spoolDoesRow = true := by kernel_rfl
theorem cl24 : (fun (P : Program) (f : FuncId) (fn : Func) (s : ChangeSpec) (c : OpenClaim) => P.stopsHeard) Try.prog 7 Try.f7 Rows.spoolDoesSpec Rows.spoolDoesRow = true := by kernel_rfl
theorem cl25 : (fun (P : Program) (f : FuncId) (fn : Func) (s : ChangeSpec) (c : OpenClaim) => P.mayEnter) Try.prog 7 Try.f7 Rows.spoolDoesSpec Rows.spoolDoesRow = true := by kernel_rfl
theorem cl26 : (fun (P : Program) (f : FuncId) (fn : Func) (s : ChangeSpec) (c : OpenClaim) => (c.lifted == P.liftsFinal)) Try.prog 7 Try.f7 Rows.spoolDoesSpec Rows.spoolDoesRow = true := by kernel_rfl
theorem cl27 : (fun (P : Program) (f : FuncId) (fn : Func) (s : ChangeSpec) (c : OpenClaim) => (P.make == some c.make)) Try.prog 7 Try.f7 Rows.spoolDoesSpec Rows.spoolDoesRow = true := by kernel_rfl
theorem cl28 : (fun (P : Program) (f : FuncId) (fn : Func) (s : ChangeSpec) (c : OpenClaim) => (c.kinds == (if c.domain.isEmpty then [] else fn.params.toList.map fun t => match P.underlying t with | some (.int k) => some k | _ => none))) Try.prog 7 Try.f7 Rows.spoolDoesSpec Rows.spoolDoesRow = true := by kernel_rfl
theorem cl29 : (fun (P : Program) (f : FuncId) (fn : Func) (s : ChangeSpec) (c : OpenClaim) => (c.pinned == c.pinnedBy)) Try.prog 7 Try.f7 Rows.spoolDoesSpec Rows.spoolDoesRow = true := by kernel_rfl
theorem cl30 : (fun (P : Program) (f : FuncId) (fn : Func) (s : ChangeSpec) (c : OpenClaim) => (c.veiled == (fn.params.toList ++ s.plain.varTypes P ++ fn.resultTypes.toList).any (P.veiledRec ·))) Try.prog 7 Try.f7 Rows.spoolDoesSpec Rows.spoolDoesRow = true := by kernel_rfl
theorem cl31 : (fun (P : Program) (f : FuncId) (fn : Func) (s : ChangeSpec) (c : OpenClaim) => c.veiledFits P fn.params.toList (fn.params.toList ++ s.plain.varTypes P ++ fn.resultTypes.toList)) Try.prog 7 Try.f7 Rows.spoolDoesSpec Rows.spoolDoesRow = true := by kernel_rfl
theorem and2 {a b : Bool} (h : a = true) (k : b = true) : (a && b) = true := by rw [h, k]; rfl
theorem closed : joinedFacts Try.prog 7 Try.f7 Rows.spoolDoesSpec Rows.spoolDoesRow = true := by
  unfold joinedFacts
  exact and2 (and2 (and2 (and2 (and2 (and2 (and2 (and2 (and2 (and2 (and2 (and2 (and2 (and2 (and2 (and2 (and2 (and2 (and2 (and2 (and2 (and2 (and2 (and2 (and2 (and2 (and2 (and2 (and2 (and2 (and2 cl0 cl1) cl2) cl3) cl4) cl5) cl6) cl7) cl8) cl9) cl10) cl11) cl12) cl13) cl14) cl15) cl16) cl17) cl18) cl19) cl20) cl21) cl22) cl23) cl24) cl25) cl26) cl27) (by kernel_rfl)) cl29) cl30) cl31
theorem named : Try.prog.funcNamed Rows.spoolDoesRow.func = some 7 := by kernel_rfl
theorem inst : Try.f7.isInstance Try.prog Rows.spoolDoesRow.origin Rows.spoolDoesRow.targs := of_decide_eq_true (by kernel_rfl)
theorem wrapper : Try.f7.isWrapper Try.prog Rows.spoolDoesRow.wrapper Rows.spoolDoesRow.mainSum := by unfold Func.isWrapper; first | (rw [if_pos (by decide +kernel)]; kernel_rfl) | (rw [if_neg (by decide +kernel)]; exact ⟨rfl, rfl⟩)
theorem over : Rows.spoolDoesRow.holds Try.pinned (OpenSpec.ofChange Rows.spoolDoesSpec) :=
  OpenClaim.holds_of_wide (p := Try.pinned) 7 Try.f7 rfl rfl rfl rfl rfl rfl rfl ⟨rfl, rfl, rfl, rfl, rfl⟩ rfl rfl rfl rfl rfl named Try.func7 closed inst wrapper
    (fun os started H enc _ => lifted os started H enc)
theorem proved : Rows.SpoolDoesSaid := over
#print axioms proved
end Go.Proofs.Ytdleomeiojlooaa.spoolDoes
namespace Go.Proofs.Ytdleomeiojlooaa
/-- The row, under a short name, for the claim. -/
theorem spoolDoes_holds : Rows.SpoolDoesSaid := spoolDoes.proved
end Go.Proofs.Ytdleomeiojlooaa