/- The row of the law hustings/hustingslaw19.SpoolLoses, over its walk. -/
import Derived.Test.YtdleomeiojlooaaRows
import Derived.Test.YtdleomeiojlooaaYd4
import Derived.WalkKit
import Derived.ProofKit
import Derived.OpenShut
import Derived.ShutString
import Derived.ChangeOld
import Derived.Below
import Derived.SizedLaws
namespace Go.Proofs.Ytdleomeiojlooaa.spoolLoses
open Go.ChangeShapes Go.WideShapes Go.ChangeAt Go.RowKit
open Go.ChangeMaps (open_string shut_string)
set_option linter.unusedVariables false
theorem own : ownKnob Try.prog.godebug = none := by kernel_rfl
theorem laidOut : laidOutB Try.prog = true := by kernel_rfl
def IsRow (k : IntKind) (w : World) (a : Option Addr) (len cap : Nat) (zs : List Int) : Prop :=
  (a = none ∧ len = 0 ∧ cap = 0 ∧ zs = []) ∨
  ∃ x, a = some x ∧ len ≤ cap ∧ cap ≤ maxLen ∧ zs.length = cap ∧ (∀ i, i < zs.length → w.cell? (x.add i) = some (.int k (zs.getD i 0))) ∧ ∀ n ∈ zs, (Lit.int k n).wf = true
set_option maxRecDepth 100000 in
theorem lifted (os : Os) (started : os.Started) (H : Type) (enc : TypeId × Value → H) :
    ReturnsInHanded {} Try.checked os 6 .any (Rows.spoolLosesSpec.pre6 enc Try.prog Try.f6 Rows.spoolLosesRow.domain false) (Rows.spoolLosesSpec.post enc Try.prog Try.f6 false true false false) := by
  refine returnsInHanded_of_change_sized (C := Try.checked) own started (by kernel_rfl) Try.func6
    (ChangeSpec.witness6 (enc := enc) (C := Try.checked) false ⟨#[], #[.slice none 0 0, .slice none 0 0, .int .i64 0, .int .i64 0], []⟩ 8 (by kernel_rfl) (by kernel_rfl) (by kernel_rfl) (by kernel_rfl)) ?_
  intro W base args ds gs before hval0 hW hcnd hsz0 _
  have hsz : (DataW.weightsEach Try.prog (Try.f6.params.toList ++ Rows.spoolLosesSpec.plain.varTypes Try.prog) (ds ++ gs)).all (· ≤ reachBytes) = true := hsz0
  have hval : ∀ (j : Nat) t v, Try.f6.params[j]? = some t → args[j]? = some v → Value.okWide Try.prog W .any base t v := hval0
  have hW' := hW
  obtain ⟨p, q, hA0, hV, rfl, hfz, hnd⟩ := hW
  have hA : DataW.TrodAll enc Try.prog W 0 (fun _ => true) true Try.f6.params.toList args.toList ds p := hA0
  rw [Try.params6] at hA hval hsz
  obtain ⟨v0, vs0, d0, ds0, p0, q0, hargs, rfl, rfl, h0, r0⟩ := trodAll_cons hA
  obtain ⟨v1, vs1, d1, ds1, p1, q1, rfl, rfl, rfl, h1, r1⟩ := trodAll_cons r0
  obtain ⟨v2, vs2, d2, ds2, p2, q2, rfl, rfl, rfl, h2, r2⟩ := trodAll_cons r1
  obtain ⟨v3, vs3, d3, ds3, p3, q3, rfl, rfl, rfl, h3, r3⟩ := trodAll_cons r2
  obtain ⟨rfl, rfl, rfl⟩ := trodAll_nil r3
  obtain rfl : args = #[v0, v1, v2, v3] := by cases args; simp_all
  obtain ⟨rfl, rfl⟩ := trodVars_none hV
  have k0 := h0
  have lt0 : ∀ x ∈ p0, x.block < W.heap.size := by obtain ⟨m, hm⟩ := k0; exact DataW.trod_lt m _ _ _ hm
  obtain ⟨a0, len0, cap0, l0, rfl, w0⟩ := P.open_list Go.Proofs.YtdleomeiojlooaaW.PrintWords.Kd.string (fun x : ByteArray => x.size ≤ P.reach47) hsz (j := 0) rfl rfl Try.underlying25 (by kernel_rfl) (of_decide_eq_true (by kernel_rfl)) (hval 0 25 v0 rfl rfl) h0 (P.each_string Try.underlying9)
  have k1 := h1
  have lt1 : ∀ x ∈ p1, x.block < W.heap.size := by obtain ⟨m, hm⟩ := k1; exact DataW.trod_lt m _ _ _ hm
  obtain ⟨a1, len1, cap1, l1, rfl, w1⟩ := P.open_list (Go.Proofs.YtdleomeiojlooaaW.PrintWords.Kd.scalar Value.bool (fun _ => rfl)) (fun _ : Bool => True) hsz (j := 1) rfl rfl Try.underlying41 (by kernel_rfl) (of_decide_eq_true (by kernel_rfl)) (hval 1 41 v1 rfl rfl) h1 (P.each_bool Try.underlying4)
  obtain ⟨a2, rfl, rfl, rfl, w2⟩ := open_int Try.underlying3 (hval 2 3 v2 rfl rfl) h2
  obtain ⟨a3, rfl, rfl, rfl, w3⟩ := open_int Try.underlying3 (hval 3 3 v3 rfl rfl) h3
  clear hA0 hval0 hsz0 hsz
  refine (P.SpoolLoses_walk a0 len0 cap0 l0 a1 len1 cap1 l1 a2 a3 W  w0 w1 w2 w3).mono fun e W' ⟨he, bel⟩ => ?_
  subst he
  exact ⟨_, rfl, _, _, _, [], _, [], hW', trodAll_mk1 (shut_bool Try.underlying4 _), (trodAll_cons_mk (Below.trod laidOut (by kernel_rfl) (of_decide_eq_true (by kernel_rfl)) k0 bel lt0) (trodAll_cons_mk (Below.trod laidOut (by kernel_rfl) (of_decide_eq_true (by kernel_rfl)) k1 bel lt1) (trodAll_cons_mk (shut_int Try.underlying3 w2) (trodAll_cons_mk (shut_int Try.underlying3 w3) trodAll_mk0)))), rfl, bel.frame _, fun h => by cases h⟩
theorem cl0 : (fun (P : Program) (f : FuncId) (fn : Func) (s : ChangeSpec) (c : OpenClaim) => c.wf (OpenSpec.ofChange s)) Try.prog 6 Try.f6 Rows.spoolLosesSpec Rows.spoolLosesRow = true := by kernel_rfl
theorem cl1 : (fun (P : Program) (f : FuncId) (fn : Func) (s : ChangeSpec) (c : OpenClaim) => laidOutB P) Try.prog 6 Try.f6 Rows.spoolLosesSpec Rows.spoolLosesRow = true := by kernel_rfl
theorem cl2 : (fun (P : Program) (f : FuncId) (fn : Func) (s : ChangeSpec) (c : OpenClaim) => mapsRowed P) Try.prog 6 Try.f6 Rows.spoolLosesSpec Rows.spoolLosesRow = true := by kernel_rfl
theorem cl3 : (fun (P : Program) (f : FuncId) (fn : Func) (s : ChangeSpec) (c : OpenClaim) => fn.params.all (P.readableRec ·)) Try.prog 6 Try.f6 Rows.spoolLosesSpec Rows.spoolLosesRow = true := by kernel_rfl
theorem cl4 : (fun (P : Program) (f : FuncId) (fn : Func) (s : ChangeSpec) (c : OpenClaim) => namedTie P c.named s.vars) Try.prog 6 Try.f6 Rows.spoolLosesSpec Rows.spoolLosesRow = true := by kernel_rfl
theorem cl5 : (fun (P : Program) (f : FuncId) (fn : Func) (s : ChangeSpec) (c : OpenClaim) => (c.stops == [])) Try.prog 6 Try.f6 Rows.spoolLosesSpec Rows.spoolLosesRow = true := by kernel_rfl
theorem cl6 : (fun (P : Program) (f : FuncId) (fn : Func) (s : ChangeSpec) (c : OpenClaim) => (P.stops == [])) Try.prog 6 Try.f6 Rows.spoolLosesSpec Rows.spoolLosesRow = true := by kernel_rfl
theorem cl7 : (fun (P : Program) (f : FuncId) (fn : Func) (s : ChangeSpec) (c : OpenClaim) => (c.knobs == [])) Try.prog 6 Try.f6 Rows.spoolLosesSpec Rows.spoolLosesRow = true := by kernel_rfl
theorem cl8 : (fun (P : Program) (f : FuncId) (fn : Func) (s : ChangeSpec) (c : OpenClaim) => (P.stopKnobs == [])) Try.prog 6 Try.f6 Rows.spoolLosesSpec Rows.spoolLosesRow = true := by kernel_rfl
theorem cl9 : (fun (P : Program) (f : FuncId) (fn : Func) (s : ChangeSpec) (c : OpenClaim) => (c.inPlace == P.inPlace f)) Try.prog 6 Try.f6 Rows.spoolLosesSpec Rows.spoolLosesRow = true := by kernel_rfl
theorem cl10 : (fun (P : Program) (f : FuncId) (fn : Func) (s : ChangeSpec) (c : OpenClaim) => (c.unfollowed == P.unfollowed f)) Try.prog 6 Try.f6 Rows.spoolLosesSpec Rows.spoolLosesRow = true := by kernel_rfl
theorem cl11 : (fun (P : Program) (f : FuncId) (fn : Func) (s : ChangeSpec) (c : OpenClaim) => (c.recurses == P.recurses f)) Try.prog 6 Try.f6 Rows.spoolLosesSpec Rows.spoolLosesRow = true := by kernel_rfl
theorem cl12 : (fun (P : Program) (f : FuncId) (fn : Func) (s : ChangeSpec) (c : OpenClaim) => (c.named == P.varsNamed f)) Try.prog 6 Try.f6 Rows.spoolLosesSpec Rows.spoolLosesRow = true := by kernel_rfl
theorem cl13 : (fun (P : Program) (f : FuncId) (fn : Func) (s : ChangeSpec) (c : OpenClaim) => (c.maps == (fn.params.toList ++ s.plain.varTypes P).any (P.mapsRec ·))) Try.prog 6 Try.f6 Rows.spoolLosesSpec Rows.spoolLosesRow = true := by kernel_rfl
theorem cl14 : (fun (P : Program) (f : FuncId) (fn : Func) (s : ChangeSpec) (c : OpenClaim) => (c.ifaces == (fn.params.toList ++ s.plain.varTypes P).any (P.ifacesRec ·))) Try.prog 6 Try.f6 Rows.spoolLosesSpec Rows.spoolLosesRow = true := by kernel_rfl
theorem cl15 : (fun (P : Program) (f : FuncId) (fn : Func) (s : ChangeSpec) (c : OpenClaim) => (c.mapsOut == P.mapsAmong fn.resultTypes.toList)) Try.prog 6 Try.f6 Rows.spoolLosesSpec Rows.spoolLosesRow = true := by kernel_rfl
theorem cl16 : (fun (P : Program) (f : FuncId) (fn : Func) (s : ChangeSpec) (c : OpenClaim) => (c.loops == (fn.params.toList ++ s.plain.varTypes P).any (P.loopsFrom ·))) Try.prog 6 Try.f6 Rows.spoolLosesSpec Rows.spoolLosesRow = true := by kernel_rfl
theorem cl17 : (fun (P : Program) (f : FuncId) (fn : Func) (s : ChangeSpec) (c : OpenClaim) => (c.wideKeys == (fn.params.toList ++ s.plain.varTypes P ++ fn.resultTypes.toList).any (P.wideKeysFrom ·))) Try.prog 6 Try.f6 Rows.spoolLosesSpec Rows.spoolLosesRow = true := by kernel_rfl
theorem cl18 : (fun (P : Program) (f : FuncId) (fn : Func) (s : ChangeSpec) (c : OpenClaim) => s.vars.all (P.varReadable ·)) Try.prog 6 Try.f6 Rows.spoolLosesSpec Rows.spoolLosesRow = true := by kernel_rfl
theorem cl19 : (fun (P : Program) (f : FuncId) (fn : Func) (s : ChangeSpec) (c : OpenClaim) => fn.resultTypes.all (fun t => P.readableRec t && decide (t < P.types.size))) Try.prog 6 Try.f6 Rows.spoolLosesSpec Rows.spoolLosesRow = true := by kernel_rfl
theorem cl20 : (fun (P : Program) (f : FuncId) (fn : Func) (s : ChangeSpec) (c : OpenClaim) => (c.ifacesOut == fn.resultTypes.toList.any (P.ifacesRec ·))) Try.prog 6 Try.f6 Rows.spoolLosesSpec Rows.spoolLosesRow = true := by kernel_rfl
theorem cl21 : (fun (P : Program) (f : FuncId) (fn : Func) (s : ChangeSpec) (c : OpenClaim) => (c.loopsOut == fn.resultTypes.toList.any (P.loopsFrom ·))) Try.prog 6 Try.f6 Rows.spoolLosesSpec Rows.spoolLosesRow = true := by kernel_rfl
theorem cl22 : (fun (P : Program) (f : FuncId) (fn : Func) (s : ChangeSpec) (c : OpenClaim) => (c.plainKeys == P.plainKeys)) Try.prog 6 Try.f6 Rows.spoolLosesSpec Rows.spoolLosesRow = true := by kernel_rfl
theorem cl23 : (fun (P : Program) (f : FuncId) (fn : Func) (s : ChangeSpec) (c : OpenClaim) => c.shortTexts.isNone) Try.prog 6 Try.f6 Rows.spoolLosesSpec Rows.spoolLosesRow = true := by kernel_rfl
theorem cl24 : (fun (P : Program) (f : FuncId) (fn : Func) (s : ChangeSpec) (c : OpenClaim) => P.stopsHeard) Try.prog 6 Try.f6 Rows.spoolLosesSpec Rows.spoolLosesRow = true := by kernel_rfl
theorem cl25 : (fun (P : Program) (f : FuncId) (fn : Func) (s : ChangeSpec) (c : OpenClaim) => P.mayEnter) Try.prog 6 Try.f6 Rows.spoolLosesSpec Rows.spoolLosesRow = true := by kernel_rfl
theorem cl26 : (fun (P : Program) (f : FuncId) (fn : Func) (s : ChangeSpec) (c : OpenClaim) => (c.lifted == P.liftsFinal)) Try.prog 6 Try.f6 Rows.spoolLosesSpec Rows.spoolLosesRow = true := by kernel_rfl
theorem cl27 : (fun (P : Program) (f : FuncId) (fn : Func) (s : ChangeSpec) (c : OpenClaim) => (P.make == some c.make)) Try.prog 6 Try.f6 Rows.spoolLosesSpec Rows.spoolLosesRow = true := by kernel_rfl
theorem cl28 : (fun (P : Program) (f : FuncId) (fn : Func) (s : ChangeSpec) (c : OpenClaim) => (c.kinds == (if c.domain.isEmpty then [] else fn.params.toList.map fun t => match P.underlying t with | some (.int k) => some k | _ => none))) Try.prog 6 Try.f6 Rows.spoolLosesSpec Rows.spoolLosesRow = true := by kernel_rfl
theorem cl29 : (fun (P : Program) (f : FuncId) (fn : Func) (s : ChangeSpec) (c : OpenClaim) => (c.pinned == c.pinnedBy)) Try.prog 6 Try.f6 Rows.spoolLosesSpec Rows.spoolLosesRow = true := by kernel_rfl
theorem cl30 : (fun (P : Program) (f : FuncId) (fn : Func) (s : ChangeSpec) (c : OpenClaim) => (c.veiled == (fn.params.toList ++ s.plain.varTypes P ++ fn.resultTypes.toList).any (P.veiledRec ·))) Try.prog 6 Try.f6 Rows.spoolLosesSpec Rows.spoolLosesRow = true := by kernel_rfl
theorem cl31 : (fun (P : Program) (f : FuncId) (fn : Func) (s : ChangeSpec) (c : OpenClaim) => c.veiledFits P fn.params.toList (fn.params.toList ++ s.plain.varTypes P ++ fn.resultTypes.toList)) Try.prog 6 Try.f6 Rows.spoolLosesSpec Rows.spoolLosesRow = true := by kernel_rfl
theorem and2 {a b : Bool} (h : a = true) (k : b = true) : (a && b) = true := by rw [h, k]; rfl
theorem closed : joinedFacts Try.prog 6 Try.f6 Rows.spoolLosesSpec Rows.spoolLosesRow = true := by
  unfold joinedFacts
  exact and2 (and2 (and2 (and2 (and2 (and2 (and2 (and2 (and2 (and2 (and2 (and2 (and2 (and2 (and2 (and2 (and2 (and2 (and2 (and2 (and2 (and2 (and2 (and2 (and2 (and2 (and2 (and2 (and2 (and2 (and2 cl0 cl1) cl2) cl3) cl4) cl5) cl6) cl7) cl8) cl9) cl10) cl11) cl12) cl13) cl14) cl15) cl16) cl17) cl18) cl19) cl20) cl21) cl22) cl23) cl24) cl25) cl26) cl27) (by kernel_rfl)) cl29) cl30) cl31
theorem named : Try.prog.funcNamed Rows.spoolLosesRow.func = some 6 := by kernel_rfl
theorem inst : Try.f6.isInstance Try.prog Rows.spoolLosesRow.origin Rows.spoolLosesRow.targs := of_decide_eq_true (by kernel_rfl)
theorem wrapper : Try.f6.isWrapper Try.prog Rows.spoolLosesRow.wrapper Rows.spoolLosesRow.mainSum := by unfold Func.isWrapper; first | (rw [if_pos (by decide +kernel)]; kernel_rfl) | (rw [if_neg (by decide +kernel)]; exact ⟨rfl, rfl⟩)
theorem over : Rows.spoolLosesRow.holds Try.pinned (OpenSpec.ofChange Rows.spoolLosesSpec) :=
  OpenClaim.holds_of_wide (p := Try.pinned) 6 Try.f6 rfl rfl rfl rfl rfl rfl rfl ⟨rfl, rfl, rfl, rfl, rfl⟩ rfl rfl rfl rfl rfl named Try.func6 closed inst wrapper
    (fun os started H enc _ => lifted os started H enc)
theorem proved : Rows.SpoolLosesSaid := over
#print axioms proved
end Go.Proofs.Ytdleomeiojlooaa.spoolLoses
namespace Go.Proofs.Ytdleomeiojlooaa
/-- The row, under a short name, for the claim. -/
theorem spoolLoses_holds : Rows.SpoolLosesSaid := spoolLoses.proved
end Go.Proofs.Ytdleomeiojlooaa