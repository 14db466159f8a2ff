/- The row of the law hustings/hustingslaw14.PowerValid, over its walk. -/
import Derived.Test.YtlfplmlehbomlaaDoorRows
import Derived.Test.YtlfplmlehbomlaaDoorYa5
import Derived.WalkKit
import Derived.ProofKit
import Derived.OpenShut
import Derived.ShutString
import Derived.ChangeOld
import Derived.Below
import Derived.SizedLaws
import Derived.Test.YtlfplmlehbomlaaDoorCards
import Derived.Test.YtlfplmlehbomlaaDoorTie
import Derived.LaidMore
import Derived.SevenTiedAt
import Derived.Stop.Joined
import Derived.Lib.LaidTab
namespace Go.Proofs.YtlfplmlehbomlaaDoor.powerValid
open Go.ChangeShapes Go.WideShapes Go.ChangeAt Go.RowKit
open Go.ChangeMaps (open_string shut_string)
set_option linter.unusedVariables false
theorem own : ownKnob Tryd.prog.godebug = none := by kernel_rfl
theorem laidOut : laidOutB Tryd.prog = true := by kernel_rfl
def IsRow (k : IntKind) (w : World) (a : Option Addr) (len cap : Nat) (zs : List Int) : Prop :=
  (a = none ∧ len = 0 ∧ cap = 0 ∧ zs = []) ∨
  ∃ x, a = some x ∧ len ≤ cap ∧ cap ≤ maxLen ∧ zs.length = cap ∧ (∀ i, i < zs.length → w.cell? (x.add i) = some (.int k (zs.getD i 0))) ∧ ∀ n ∈ zs, (Lit.int k n).wf = true
def laidL : List (String × DataW Unit) := [("hustings/power.names", Rows.laid_hustings_power_names)]
theorem door_met (os : Os) (args : Array Value) : laidMetH Tryd.prog laidL ((World.doorLaid Tryd.prog 400 os).forCall (fun _ _ => 0) ⟨#[], args, []⟩).memory :=
  laidMetH_of_parts3 (fuel := 8) (laidMet_of_run' 8 (by kernel_rfl) (by kernel_rfl)) (by kernel_rfl) (by kernel_rfl)
set_option maxRecDepth 100000 in
theorem lifted (os : Os) (started : os.Started) (H : Type) (enc : TypeId × Value → H) :
    ReturnsInHanded {} Tryd.checked os 3 .any (fun w args => (Rows.powerValidSpec.pre enc Tryd.prog Tryd.f3 [] false w args ∧ laidMetH Tryd.prog laidL w) ∧ sizedMet enc Tryd.prog Tryd.f3 (OpenSpec.ofChange Rows.powerValidSpec) false w args) (Rows.powerValidSpec.post enc Tryd.prog Tryd.f3 false true false false) := by
  refine returnsInHanded_of_change_and (C := Tryd.checked) (X := fun w _ => laidMetH Tryd.prog laidL w) (fun _ _ _ hh h => h.of_heap hh) own started (by kernel_rfl) Tryd.func3
    (ChangeSpec.witness_shaped (enc := enc) (C := Tryd.checked) (os := os) (X := fun w _ => laidMetH Tryd.prog laidL w) false (World.doorLaid Tryd.prog 400 os) #[.agg #[.int .i64 0, .bool false, .int .i64 0, .string ByteArray.empty, .slice none 0 0, .slice none 0 0]] 8 rfl (World.shaped_of_RefB (by kernel_rfl) (by kernel_rfl)) (by kernel_rfl) (by kernel_rfl) (by kernel_rfl) (door_met os _)) ?_
  intro W base args ds gs before hval0 hW _ hsz0 hL _
  have hsz : (DataW.weightsEach Tryd.prog (Tryd.f3.params.toList ++ Rows.powerValidSpec.plain.varTypes Tryd.prog) (ds ++ gs)).all (· ≤ reachBytes) = true := hsz0
  have hval : ∀ (j : Nat) t v, Tryd.f3.params[j]? = some t → args[j]? = some v → Value.okWide Tryd.prog W .any base t v := hval0
  have hW' := hW
  obtain ⟨p, q, hA0, hV, rfl, hfz, hnd⟩ := hW
  have hA : DataW.TrodAll enc Tryd.prog W 0 (fun _ => true) true Tryd.f3.params.toList args.toList ds p := hA0
  rw [Tryd.params3] at hA hval hsz
  have hOF := P.tab_of hL
  obtain ⟨v0, vs0, d0, ds0, p0, q0, hargs, rfl, rfl, h0, r0⟩ := trodAll_cons hA
  obtain ⟨rfl, rfl, rfl⟩ := trodAll_nil r0
  obtain rfl : args = #[v0] := by cases args; simp_all
  obtain ⟨rfl, rfl⟩ := trodVars_none hV
  have k0 := h0
  have lt0 : ∀ x ∈ p0, x.block < W.heap.size := by obtain ⟨m, hm⟩ := k0; exact DataW.trod_lt m _ _ _ hm
  obtain ⟨a0, rfl, w0⟩ := P.open_value P.vt hsz (j := 0) rfl rfl (hval 0 25 v0 rfl rfl) h0
  clear hA0 hval0 hsz0 hsz
  refine (P.PowerValid_walk a0 W hOF w0).mono fun e W' ⟨he, bel⟩ => ?_
  subst he
  exact ⟨_, rfl, _, _, _, [], _, [], hW', trodAll_mk1 (shut_bool Tryd.underlying4 _), (trodAll_cons_mk (Below.trod laidOut (by kernel_rfl) (of_decide_eq_true (by kernel_rfl)) k0 bel lt0) trodAll_mk0), rfl, bel.frame _, fun h => by cases h⟩
theorem cl0 : (fun (P : Program) (f : FuncId) (fn : Func) (s : ChangeSpec) (c : OpenClaim) => c.wf (OpenSpec.ofChange s)) Tryd.prog 3 Tryd.f3 Rows.powerValidSpec Rows.powerValidRow = true := by kernel_rfl
theorem cl1 : (fun (P : Program) (f : FuncId) (fn : Func) (s : ChangeSpec) (c : OpenClaim) => laidOutB P) Tryd.prog 3 Tryd.f3 Rows.powerValidSpec Rows.powerValidRow = true := by kernel_rfl
theorem cl2 : (fun (P : Program) (f : FuncId) (fn : Func) (s : ChangeSpec) (c : OpenClaim) => mapsRowed P) Tryd.prog 3 Tryd.f3 Rows.powerValidSpec Rows.powerValidRow = true := by kernel_rfl
theorem cl3 : (fun (P : Program) (f : FuncId) (fn : Func) (s : ChangeSpec) (c : OpenClaim) => fn.params.all (P.readableRec ·)) Tryd.prog 3 Tryd.f3 Rows.powerValidSpec Rows.powerValidRow = true := by kernel_rfl
theorem cl4 : (fun (P : Program) (f : FuncId) (fn : Func) (s : ChangeSpec) (c : OpenClaim) => namedTie P c.named s.vars) Tryd.prog 3 Tryd.f3 Rows.powerValidSpec Rows.powerValidRow = true := by kernel_rfl
theorem cl5 : (fun (P : Program) (f : FuncId) (fn : Func) (s : ChangeSpec) (c : OpenClaim) => (c.stops == [])) Tryd.prog 3 Tryd.f3 Rows.powerValidSpec Rows.powerValidRow = true := by kernel_rfl
theorem cl6 : (fun (P : Program) (f : FuncId) (fn : Func) (s : ChangeSpec) (c : OpenClaim) => (P.stops == [])) Tryd.prog 3 Tryd.f3 Rows.powerValidSpec Rows.powerValidRow = true := by kernel_rfl
theorem cl7 : (fun (P : Program) (f : FuncId) (fn : Func) (s : ChangeSpec) (c : OpenClaim) => (c.knobs == [])) Tryd.prog 3 Tryd.f3 Rows.powerValidSpec Rows.powerValidRow = true := by kernel_rfl
theorem cl8 : (fun (P : Program) (f : FuncId) (fn : Func) (s : ChangeSpec) (c : OpenClaim) => (P.stopKnobs == [])) Tryd.prog 3 Tryd.f3 Rows.powerValidSpec Rows.powerValidRow = true := by kernel_rfl
theorem cl9 : (fun (P : Program) (f : FuncId) (fn : Func) (s : ChangeSpec) (c : OpenClaim) => (c.inPlace == P.inPlace f)) Tryd.prog 3 Tryd.f3 Rows.powerValidSpec Rows.powerValidRow = true := by kernel_rfl
theorem cl10 : (fun (P : Program) (f : FuncId) (fn : Func) (s : ChangeSpec) (c : OpenClaim) => (c.unfollowed == P.unfollowed f)) Tryd.prog 3 Tryd.f3 Rows.powerValidSpec Rows.powerValidRow = true := by kernel_rfl
theorem cl11 : (fun (P : Program) (f : FuncId) (fn : Func) (s : ChangeSpec) (c : OpenClaim) => (c.recurses == P.recurses f)) Tryd.prog 3 Tryd.f3 Rows.powerValidSpec Rows.powerValidRow = true := by kernel_rfl
theorem cl12 : (fun (P : Program) (f : FuncId) (fn : Func) (s : ChangeSpec) (c : OpenClaim) => (c.named == P.varsNamed f)) Tryd.prog 3 Tryd.f3 Rows.powerValidSpec Rows.powerValidRow = true := by kernel_rfl
theorem cl13 : (fun (P : Program) (f : FuncId) (fn : Func) (s : ChangeSpec) (c : OpenClaim) => (c.maps == (fn.params.toList ++ s.plain.varTypes P).any (P.mapsRec ·))) Tryd.prog 3 Tryd.f3 Rows.powerValidSpec Rows.powerValidRow = true := by kernel_rfl
theorem cl14 : (fun (P : Program) (f : FuncId) (fn : Func) (s : ChangeSpec) (c : OpenClaim) => (c.ifaces == (fn.params.toList ++ s.plain.varTypes P).any (P.ifacesRec ·))) Tryd.prog 3 Tryd.f3 Rows.powerValidSpec Rows.powerValidRow = true := by kernel_rfl
theorem cl15 : (fun (P : Program) (f : FuncId) (fn : Func) (s : ChangeSpec) (c : OpenClaim) => (c.mapsOut == P.mapsAmong fn.resultTypes.toList)) Tryd.prog 3 Tryd.f3 Rows.powerValidSpec Rows.powerValidRow = true := by kernel_rfl
theorem cl16 : (fun (P : Program) (f : FuncId) (fn : Func) (s : ChangeSpec) (c : OpenClaim) => (c.loops == (fn.params.toList ++ s.plain.varTypes P).any (P.loopsFrom ·))) Tryd.prog 3 Tryd.f3 Rows.powerValidSpec Rows.powerValidRow = true := by kernel_rfl
theorem cl17 : (fun (P : Program) (f : FuncId) (fn : Func) (s : ChangeSpec) (c : OpenClaim) => (c.wideKeys == (fn.params.toList ++ s.plain.varTypes P ++ fn.resultTypes.toList).any (P.wideKeysFrom ·))) Tryd.prog 3 Tryd.f3 Rows.powerValidSpec Rows.powerValidRow = true := by kernel_rfl
theorem cl18 : (fun (P : Program) (f : FuncId) (fn : Func) (s : ChangeSpec) (c : OpenClaim) => s.vars.all (P.varReadable ·)) Tryd.prog 3 Tryd.f3 Rows.powerValidSpec Rows.powerValidRow = true := by kernel_rfl
theorem cl19 : (fun (P : Program) (f : FuncId) (fn : Func) (s : ChangeSpec) (c : OpenClaim) => fn.resultTypes.all (fun t => P.readableRec t && decide (t < P.types.size))) Tryd.prog 3 Tryd.f3 Rows.powerValidSpec Rows.powerValidRow = true := by kernel_rfl
theorem cl20 : (fun (P : Program) (f : FuncId) (fn : Func) (s : ChangeSpec) (c : OpenClaim) => (c.ifacesOut == fn.resultTypes.toList.any (P.ifacesRec ·))) Tryd.prog 3 Tryd.f3 Rows.powerValidSpec Rows.powerValidRow = true := by kernel_rfl
theorem cl21 : (fun (P : Program) (f : FuncId) (fn : Func) (s : ChangeSpec) (c : OpenClaim) => (c.loopsOut == fn.resultTypes.toList.any (P.loopsFrom ·))) Tryd.prog 3 Tryd.f3 Rows.powerValidSpec Rows.powerValidRow = true := by kernel_rfl
theorem cl22 : (fun (P : Program) (f : FuncId) (fn : Func) (s : ChangeSpec) (c : OpenClaim) => (c.plainKeys == P.plainKeys)) Tryd.prog 3 Tryd.f3 Rows.powerValidSpec Rows.powerValidRow = true := by kernel_rfl
theorem cl23 : (fun (P : Program) (f : FuncId) (fn : Func) (s : ChangeSpec) (c : OpenClaim) => c.shortTexts.isNone) Tryd.prog 3 Tryd.f3 Rows.powerValidSpec Rows.powerValidRow = true := by kernel_rfl
theorem cl24 : (fun (P : Program) (f : FuncId) (fn : Func) (s : ChangeSpec) (c : OpenClaim) => P.stopsHeard) Tryd.prog 3 Tryd.f3 Rows.powerValidSpec Rows.powerValidRow = true := by kernel_rfl
theorem cl25 : (fun (P : Program) (f : FuncId) (fn : Func) (s : ChangeSpec) (c : OpenClaim) => P.mayEnter) Tryd.prog 3 Tryd.f3 Rows.powerValidSpec Rows.powerValidRow = true := by kernel_rfl
theorem cl26 : (fun (P : Program) (f : FuncId) (fn : Func) (s : ChangeSpec) (c : OpenClaim) => (c.lifted == P.liftsFinal)) Tryd.prog 3 Tryd.f3 Rows.powerValidSpec Rows.powerValidRow = true := by kernel_rfl
theorem cl27 : (fun (P : Program) (f : FuncId) (fn : Func) (s : ChangeSpec) (c : OpenClaim) => (P.make == some c.make)) Tryd.prog 3 Tryd.f3 Rows.powerValidSpec Rows.powerValidRow = true := by kernel_rfl
theorem cl28 : (fun (P : Program) (f : FuncId) (fn : Func) (s : ChangeSpec) (c : OpenClaim) => (c.kinds == (if c.domain.isEmpty then [] else fn.params.toList.map fun t => match P.underlying t with | some (.int k) => some k | _ => none))) Tryd.prog 3 Tryd.f3 Rows.powerValidSpec Rows.powerValidRow = true := by kernel_rfl
theorem cl29 : (fun (P : Program) (f : FuncId) (fn : Func) (s : ChangeSpec) (c : OpenClaim) => (c.pinned == c.pinnedBy)) Tryd.prog 3 Tryd.f3 Rows.powerValidSpec Rows.powerValidRow = true := by kernel_rfl
theorem cl30 : (fun (P : Program) (f : FuncId) (fn : Func) (s : ChangeSpec) (c : OpenClaim) => (c.veiled == (fn.params.toList ++ s.plain.varTypes P ++ fn.resultTypes.toList).any (P.veiledRec ·))) Tryd.prog 3 Tryd.f3 Rows.powerValidSpec Rows.powerValidRow = true := by kernel_rfl
theorem cl31 : (fun (P : Program) (f : FuncId) (fn : Func) (s : ChangeSpec) (c : OpenClaim) => c.veiledFits P fn.params.toList (fn.params.toList ++ s.plain.varTypes P ++ fn.resultTypes.toList)) Tryd.prog 3 Tryd.f3 Rows.powerValidSpec Rows.powerValidRow = true := by kernel_rfl
theorem and2 {a b : Bool} (h : a = true) (k : b = true) : (a && b) = true := by rw [h, k]; rfl
theorem closed : joinedFacts Tryd.prog 3 Tryd.f3 Rows.powerValidSpec Rows.powerValidRow = true := by
  unfold joinedFacts
  exact and2 (and2 (and2 (and2 (and2 (and2 (and2 (and2 (and2 (and2 (and2 (and2 (and2 (and2 (and2 (and2 (and2 (and2 (and2 (and2 (and2 (and2 (and2 (and2 (and2 (and2 (and2 (and2 (and2 (and2 (and2 cl0 cl1) cl2) cl3) cl4) cl5) cl6) cl7) cl8) cl9) cl10) cl11) cl12) cl13) cl14) cl15) cl16) cl17) cl18) cl19) cl20) cl21) cl22) cl23) cl24) cl25) cl26) cl27) (by kernel_rfl)) cl29) cl30) cl31
theorem named : Tryd.prog.funcNamed Rows.powerValidRow.func = some 3 := by kernel_rfl
theorem inst : Tryd.f3.isInstance Tryd.prog Rows.powerValidRow.origin Rows.powerValidRow.targs := of_decide_eq_true (by kernel_rfl)
theorem wrapper : Tryd.f3.isWrapper Tryd.prog Rows.powerValidRow.wrapper Rows.powerValidRow.mainSum := by unfold Func.isWrapper; first | (rw [if_pos (by decide +kernel)]; kernel_rfl) | (rw [if_neg (by decide +kernel)]; exact ⟨rfl, rfl⟩)
theorem over : Rows.powerValidRow.holds Tryd.pinned (OpenSpec.ofChange Rows.powerValidSpec) :=
  OpenClaim.holds_of_wide (p := Tryd.pinned) 3 Tryd.f3 rfl rfl rfl rfl rfl rfl rfl ⟨rfl, rfl, rfl, rfl, rfl⟩ rfl rfl rfl rfl rfl named Tryd.func3 closed inst wrapper
    (fun os started H enc _ => lifted os started H enc)
theorem proved : Rows.PowerValidCardSaid :=
  Claim7.holds_tied_plain_at .later [] [.widerDeep] true (true, "4371f69fb5f1ead110ca4d6676e2700d971cc0a2369532c16b4fd2f248c90bc5") false
    over (fun _ h => by cases h) (by kernel_rfl) (fun _ h => by cases h) powerValid_row_tie rfl ⟨rfl, rfl⟩ (by kernel_rfl) rfl
    (fun f fn hf hfn => by
      obtain rfl : f = 3 := Option.some.inj ((show Tryd.prog.funcNamed "hustings/hustingslaw14.PowerValid" = some 3 by kernel_rfl).symm.trans hf) |>.symm
      obtain rfl : fn = Tryd.f3 := (Option.some.inj (Tryd.func3.symm.trans hfn)).symm
      exact ⟨by kernel_rfl, fun j t ht => by
        rw [Tryd.params3] at ht
        have hm : t ∈ [25] := by simpa using Array.mem_of_getElem? ht
        have hall : ([25].all fun u => !Tryd.prog.wantsStandIn u) = true := by kernel_rfl
        exact (show Tryd.prog.wantsStandIn t = false by simpa using List.all_eq_true.1 hall t hm)⟩)
    (by kernel_rfl)
#print axioms proved
end Go.Proofs.YtlfplmlehbomlaaDoor.powerValid
namespace Go.Proofs.YtlfplmlehbomlaaDoor
/-- The row, under a short name, for the claim. -/
theorem powerValid_holds : Rows.PowerValidCardSaid := powerValid.proved
end Go.Proofs.YtlfplmlehbomlaaDoor