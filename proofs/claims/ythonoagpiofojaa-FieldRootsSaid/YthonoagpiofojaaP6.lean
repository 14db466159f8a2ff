/- Root, the program's and the document's, by their walks. -/
import Derived.Test.YthonoagpiofojaaA14
import Derived.Test.YthonoagpiofojaaWFour
namespace Go.Proofs.Ythonoagpiofojaa.P
set_option linter.unusedVariables false
set_option linter.unusedSimpArgs false
open Go.RowKit Go.Proofs.YthonoagpiofojaaW.PrintWords Go.Proofs.YthonoagpiofojaaW.PrintLast Go.Proofs.YthonoagpiofojaaW.PrintMore
attribute [local go_sem] setCell_drewN
/-- The end of a function whose results are a row and a slot. -/
theorem row_results2 {P : Program} {fn : Func} {p q : Tmp} {ty : TypeId} (h : fn.results = #[.cell p ty, .tmp q]) {tmps : Array Value} {w : World} {g : Nat} {k : IntKind} {n : Nat} {f : Nat → Int} {t : TypeId} {d : TypeDesc}
    (hr : Row w g k n f t) (hp : tmps.getD p undef = .pointer (some ⟨g, 0, none⟩)) (hu : P.underlying ty = some d) (hd : (match d with | .struct _ | .array _ _ => true | _ => false) = true) (hi : (P.info? ty).map (·.size) = some n) :
    (results fn tmps).run P w = .ok (.tuple #[.agg (FR k n f), tmps.getD q undef]) w := by
  have hp' : tmps[p]?.getD undef = .pointer (some ⟨g, 0, none⟩) := by simpa using hp
  simp [results, h, hp', asAddr, run_loadVar_row w g t ty _ _ d hr hu hd (by rw [FR_size]; exact hi)]
/-- The code's i. -/
def iE : Nat → Int := powE (smL 2) (exB 253 5) 256
def iR : Nat → Int := powR (carryN (fun i => if i = 0 then 2 else 0) 16) (exB 253 5) 256
def two : Int := 2
def iZ : Int := two ^ ((PN - 1) / 4)
theorem iZ_sq : iZ * iZ % PP = (0 - 1) % PP := iN_sq two rfl
theorem iE_Fe : Fe iE iZ := by
  have h := Fe.pow (show Fe (smL 2) two from Fe.small 2 (by omega)) (exB 253 5) 256
  rw [exp_i] at h
  exact h
theorem iR_Re : Re iR iZ := by
  have h := Re.pow (show Re (carryN (fun i => if i = 0 then 2 else 0) 16) two from Re.small 2 (by omega)) (exB 253 5) 256
  rw [exp_i] at h
  exact h
def x0E (f : Nat → Int) : Nat → Int := powE f (exB 252 2) 256
def x0R (g : Nat → Int) : Nat → Int := powR g (exB 252 2) 256
theorem x0E_Fe {f : Nat → Int} {n : Int} (hf : Fe f n) : Fe (x0E f) (x0N n) := by
  have h := Fe.pow hf (exB 252 2) 256
  rw [exp_root] at h
  exact h
theorem x0R_Re {g : Nat → Int} {n : Int} (hg : Re g n) : Re (x0R g) (x0N n) := by
  have h := Re.pow hg (exB 252 2) 256
  rw [exp_root] at h
  exact h
def x1E (f : Nat → Int) (n : Int) : Nat → Int := if sq0 n then x0E f else mulE (x0E f) iE
def x1R (g : Nat → Int) (n : Int) : Nat → Int := if sq0 n then x0R g else mulR (x0R g) iR
theorem x1E_Fe {f : Nat → Int} {n : Int} (hf : Fe f n) : Fe (x1E f n) (x1N iZ n) := by
  unfold x1E x1N
  split
  · exact x0E_Fe hf
  · exact (x0E_Fe hf).mul iE_Fe
theorem x1R_Re {g : Nat → Int} {n : Int} (hg : Re g n) : Re (x1R g n) (x1N iZ n) := by
  unfold x1R x1N
  split
  · exact x0R_Re hg
  · exact (x0R_Re hg).mul iR_Re
def rtE (f : Nat → Int) (n : Int) : Nat → Int := if rOk iZ n then (if rOdd iZ n then negE (x1E f n) else x1E f n) else fun _ => 0
def rtR (g : Nat → Int) (n : Int) : Nat → Int := if rOk iZ n then (if rOdd iZ n then subR (fun _ => 0) (x1R g n) else x1R g n) else fun _ => 0
theorem rtE_Fe {f : Nat → Int} {n : Int} (hf : Fe f n) : Fe (rtE f n) (rN iZ n) := by
  unfold rtE rN
  split
  · split
    · exact (x1E_Fe hf).neg
    · exact x1E_Fe hf
  · exact Fe.zero
theorem rtR_Re {g : Nat → Int} {n : Int} (hg : Re g n) : Re (rtR g n) (rN iZ n) := by
  unfold rtR rN
  split
  · split
    · exact Re.zero.sub (x1R_Re hg)
    · exact x1R_Re hg
  · exact Re.zero
theorem x1E_y {f : Nat → Int} {n : Int} (h : sq0 n = true) : x1E f n = x0E f := if_pos h
theorem x1E_n {f : Nat → Int} {n : Int} (h : sq0 n = false) : x1E f n = mulE (x0E f) iE := if_neg (by rw [h]; decide)
theorem x1R_y {f : Nat → Int} {n : Int} (h : sq0 n = true) : x1R f n = x0R f := if_pos h
theorem x1R_n {f : Nat → Int} {n : Int} (h : sq0 n = false) : x1R f n = mulR (x0R f) iR := if_neg (by rw [h]; decide)
theorem rtE_no {f : Nat → Int} {n : Int} (h : rOk iZ n = false) : rtE f n = fun _ => 0 := if_neg (by rw [h]; decide)
theorem rtE_n {f : Nat → Int} {n : Int} (h : rOk iZ n = true) (k : rOdd iZ n = false) : rtE f n = x1E f n := (if_pos h).trans (if_neg (by rw [k]; decide))
theorem rtE_y {f : Nat → Int} {n : Int} (h : rOk iZ n = true) (k : rOdd iZ n = true) : rtE f n = negE (x1E f n) := (if_pos h).trans (if_pos k)
theorem rtR_no {f : Nat → Int} {n : Int} (h : rOk iZ n = false) : rtR f n = fun _ => 0 := if_neg (by rw [h]; decide)
theorem rtR_n {f : Nat → Int} {n : Int} (h : rOk iZ n = true) (k : rOdd iZ n = false) : rtR f n = x1R f n := (if_pos h).trans (if_neg (by rw [k]; decide))
theorem rtR_y {f : Nat → Int} {n : Int} (h : rOk iZ n = true) (k : rOdd iZ n = true) : rtR f n = subR (fun _ => 0) (x1R f n) := (if_pos h).trans (if_pos k)
theorem refIs_bool {f g : Nat → Int} {n m : Int} (hf : Re f n) (hg : Re g m) (r : Bool) (h : decide (n % PP = m % PP) = r) (w : World) : Calls Try.prog 44 #[.agg (FR .i64 16 f), .agg (FR .i64 16 g)] w fun e w' => e = .returned (.bool r) ∧ Below w.heap.size w w' := by
  have := ref_is_calls f g w hf.1.cb hg.1.cb
  rw [hf.2, hg.2, h] at this
  exact this
theorem odd_bool {f : Nat → Int} {n : Int} (hf : Fe f n) (r : Bool) (h : decide (n % PP % 2 = 1) = r) (w : World) : Calls Try.prog 18 #[.agg (FR .u64 5 f)] w fun e w' => e = .returned (.bool r) ∧ Below w.heap.size w w' := by
  have := elem_odd_calls f w hf.1.c
  rw [hf.2, h] at this
  exact this
theorem refOdd_bool {g : Nat → Int} {n : Int} (hg : Re g n) (r : Bool) (h : decide (n % PP % 2 = 1) = r) (w : World) : Calls Try.prog 19 #[.agg (FR .i64 16 g)] w fun e w' => e = .returned (.bool r) ∧ Below w.heap.size w w' := by
  have := ref_odd_calls g w hg.1.cb
  rw [hg.2, h] at this
  exact this
theorem tab3201 : rtab .any (opsOf Try.f32 1) = (true, [([], []), ([], []), ([0, 1, 1], [0, 1]), ([], []), ([3, 2, 2, 0, 1, 2, 3], [2, 3])]) := by kernel_rfl
theorem bits3201 : waitsOk [([], []), ([], []), ([0, 1, 1], [0, 1]), ([], []), ([3, 2, 2, 0, 1, 2, 3], [2, 3])] [0, 0, 3, 0, 15] = true := by kernel_rfl
theorem tab3202 : rtab .any (opsOf Try.f32 2) = (true, [([], []), ([], []), ([0, 1], [0, 1]), ([], []), ([2, 3, 2], [2, 3]), ([4], [4])]) := by kernel_rfl
theorem bits3202 : waitsOk [([], []), ([], []), ([0, 1], [0, 1]), ([], []), ([2, 3, 2], [2, 3]), ([4], [4])] [0, 0, 3, 0, 15, 31] = true := by kernel_rfl
theorem tab3203 : rtab .any (opsOf Try.f32 3) = (true, [([], []), ([], []), ([1], []), ([1, 2, 2], [1, 2]), ([0, 3, 3], [0, 3]), ([4, 4, 0, 1, 2, 3, 4], [4])]) := by kernel_rfl
theorem bits3203 : waitsOk [([], []), ([], []), ([1], []), ([1, 2, 2], [1, 2]), ([0, 3, 3], [0, 3]), ([4, 4, 0, 1, 2, 3, 4], [4])] [0, 0, 2, 6, 15, 31] = true := by kernel_rfl
theorem tab3204 : rtab .any (opsOf Try.f32 4) = (true, [([], []), ([], []), ([0, 1], [0, 1]), ([], []), ([2, 3, 2], [2, 3]), ([4], [4])]) := by kernel_rfl
theorem bits3204 : waitsOk [([], []), ([], []), ([0, 1], [0, 1]), ([], []), ([2, 3, 2], [2, 3]), ([4], [4])] [0, 0, 3, 0, 15, 31] = true := by kernel_rfl
set_option maxHeartbeats 4000000 in
theorem rootE_calls (f : Nat → Int) (n : Int) (w : World) (hf : Fe f n) :
    Calls Try.prog 32 #[.agg (FR .u64 5 f)] w fun e w' => e = .returned (.tuple #[.agg (FR .u64 5 (rtE f n)), .bool (rOk iZ n)]) ∧ Below w.heap.size w w' := by
  have HF := Aside0.mk hf
  clear hf
  go_enter Try.func32, Try.ntmps32
  go_wp2_with fail
  have hh : Row (((w.alloc (.cells (FR .u64 5 f) 27)).alloc (.cells #[.int .u64 0, .int .u64 0, .int .u64 0, .int .u64 0, .int .u64 0] 27)).drew) w.heap.size .u64 5 f 27 ∧ Row (((w.alloc (.cells (FR .u64 5 f) 27)).alloc (.cells #[.int .u64 0, .int .u64 0, .int .u64 0, .int .u64 0, .int .u64 0] 27)).drew) (w.heap.size + 1) .u64 5 (fun _ => 0) 27 := ⟨(Row.new w .u64 5 f 27).alloc _, heap_alloc2_new w _ _⟩
  have HBd := Aside0.mk ((bel_two w (.cells (FR .u64 5 f) 27) (.cells #[.int .u64 0, .int .u64 0, .int .u64 0, .int .u64 0, .int .u64 0] 27)).drew)
  refine start_ (n := 5) (S := (fun w' => Row w' w.heap.size .u64 5 f 27 ∧ Row w' (w.heap.size + 1) .u64 5 (fun _ => 0) 27)) (ds := []) #[false, false, false, false, false] (by kernel_rfl) rfl rfl hh (fun hHeld => ?_); refine with_tabW tab3201 bits3201 (fun HT_ HW_ => ?_)
  generalize ((w.alloc (.cells (FR .u64 5 f) 27)).alloc (.cells #[.int .u64 0, .int .u64 0, .int .u64 0, .int .u64 0, .int .u64 0] 27)).drew = w6 at HBd hHeld hh ⊢
  clear hh
  refine take_ (i := 0) (N := some 5) (v := ?_) (a' := ?_) #[true, false, false, false, false] rfl rfl (take_ofW HT_.out HW_.out (by kernel_rfl)) (fun _ _ _ h => h) (Or.inl ⟨by rfl, ?_⟩) hHeld ?_ ?_
  rotate_left
  · intro w' hsw
    refine exec_load (x := .tmp 1) hsw.1 Try.underlying27 info27 rfl ?_ ?_ <;> rfl
  rotate_left
  · simp only [Act.put, List.setIfInBounds_toArray, List.set_cons_zero, List.set_cons_succ, i64_w, i32_w]
    rfl
  refine join_ (σ := Nat) 1 #[true, true, true, true, false] (fun s => [(6, .agg (FR .u8 32 (exB 252 2))), (7, .agg (FR .u64 5 (x0E f))), (4, .pointer (some ⟨s, 0, none⟩))]) (fun s w' => Row w' s .u64 5 (fun _ => 0) 27 ∧ Row w' w.heap.size .u64 5 f 27 ∧ Row w' (w.heap.size + 1) .u64 5 (fun _ => 0) 27 ∧ Below w.heap.size w w' ∧ (w.heap.size + 1) < s) ?_ ?_
  rotate_left
  ·intro hJ1_2_3
   refine join_ (σ := Unit) 2 #[true, true, true, false, false] (fun s => [(6, .agg (FR .u8 32 (exB 252 2))), (7, .agg (FR .u64 5 (x0E f)))]) (fun s w' => Row w' w.heap.size .u64 5 f 27 ∧ Row w' (w.heap.size + 1) .u64 5 (fun _ => 0) 27 ∧ Below w.heap.size w w') ?_ ?_
   rotate_left
   ·intro hJ1_2
    refine join_ (σ := Nat) 2 #[true, true, false, true, false] (fun s => [(6, .agg (FR .u8 32 (exB 252 2))), (4, .pointer (some ⟨s, 0, none⟩))]) (fun s w' => Row w' s .u64 5 (fun _ => 0) 27 ∧ Row w' w.heap.size .u64 5 f 27 ∧ Row w' (w.heap.size + 1) .u64 5 (fun _ => 0) 27 ∧ Below w.heap.size w w' ∧ (w.heap.size + 1) < s) ?_ ?_
    rotate_left
    ·intro hJ1_3
     refine join_ (σ := Unit) 3 #[true, true, false, false, false] (fun s => [(6, .agg (FR .u8 32 (exB 252 2)))]) (fun s w' => Row w' w.heap.size .u64 5 f 27 ∧ Row w' (w.heap.size + 1) .u64 5 (fun _ => 0) 27 ∧ Below w.heap.size w w') ?_ ?_
     rotate_left
     ·intro hJ1
      refine join_ (σ := Nat) 3 #[true, false, false, true, false] (fun s => [(4, .pointer (some ⟨s, 0, none⟩))]) (fun s w' => Row w' s .u64 5 (fun _ => 0) 27 ∧ Row w' w.heap.size .u64 5 f 27 ∧ Row w' (w.heap.size + 1) .u64 5 (fun _ => 0) 27 ∧ Below w.heap.size w w' ∧ (w.heap.size + 1) < s) ?_ ?_
      rotate_left
      ·intro hJ3
       refine two_ (i := 1) (j := 3) (Ni := some 6) (Nj := some 4) #[true, true, false, false, false] #[true, false, false, true, false] rfl rfl rfl rfl (by kernel_rfl) (by decide) (by decide) (fun K hK => ?_) (fun K hK => ?_)
       · skip
         refine goes_ Try.func42 rfl rfl #[.int .i64 252, .int .u8 2] rfl rfl rfl (by simp only [List.map_toArray, List.map_cons, List.map_nil]; rfl) ((exponent_calls 252 2 _ (by omega) (by omega)).mono ?_)
         rintro e wf1 ⟨rfl, hb⟩
         have hSn : Row wf1 w.heap.size .u64 5 f 27 ∧ Row wf1 (w.heap.size + 1) .u64 5 (fun _ => 0) 27 := ⟨hHeld.1.below hb hHeld.1.lt, hHeld.2.below hb hHeld.2.lt⟩
         have HBf := Aside0.mk (HBd.out.trans (hb.mono HBd.out.size))
         clear hb
         refine ⟨_, rfl, hK.out _ _ hSn (fun hHeld => ?_)⟩
         clear hSn hK K
         refine norm_ (a' := ?_) ?_ ?_
         rotate_left
         · show Act.put _ (some 6) _ = _
           simp only [Act.put, List.setIfInBounds_toArray, List.set_cons_zero, List.set_cons_succ, i64_w, i32_w]
           rfl
         exact norm_ (by first | (simp only [putAll, Act.put, List.setIfInBounds_toArray, List.set_cons_zero, List.set_cons_succ]; done) | (simp only [putAll, Act.put, List.setIfInBounds_toArray, List.set_cons_zero, List.set_cons_succ]; rfl)) (hJ1 () _ ⟨hHeld.1, hHeld.2, HBf.out⟩)
       · skip
         refine event_step (by rfl) (v := .pointer (some ⟨w6.heap.size, 0, none⟩)) (w1 := w6.alloc (.cells (FR .u64 5 fun _ => 0) 27)) (by first | (go_simp; done) | (go_simp; rfl)) ?_
         have hSn : Row (w6.alloc (.cells (FR .u64 5 fun _ => 0) 27)) w.heap.size .u64 5 f 27 ∧ Row (w6.alloc (.cells (FR .u64 5 fun _ => 0) 27)) (w.heap.size + 1) .u64 5 (fun _ => 0) 27 := ⟨hHeld.1.alloc _, hHeld.2.alloc _⟩
         have HBf := Aside0.mk (HBd.out.alloc HBd.out.size (.cells (FR .u64 5 fun _ => 0) 27))
         have hlo3 : (w.heap.size + 1) < w6.heap.size := hHeld.2.lt
         have HR3 := Aside0.mk (Row.new w6 .u64 5 (fun _ => 0) 27)
         generalize w6.alloc (.cells (FR .u64 5 fun _ => 0) 27) = wf2 at hSn HBf HR3 ⊢
         refine hK.out _ _ hSn (fun hHeld => ?_)
         clear hSn hK K
         refine norm_ (a' := ?_) ?_ ?_
         rotate_left
         · show Act.put _ (some 4) _ = _
           simp only [Act.put, List.setIfInBounds_toArray, List.set_cons_zero, List.set_cons_succ, i64_w, i32_w]
           rfl
         exact norm_ (by first | (simp only [putAll, Act.put, List.setIfInBounds_toArray, List.set_cons_zero, List.set_cons_succ]; done) | (simp only [putAll, Act.put, List.setIfInBounds_toArray, List.set_cons_zero, List.set_cons_succ]; rfl)) (hJ3 w6.heap.size _ ⟨HR3.out, hHeld.1, hHeld.2, HBf.out, hlo3⟩)
      ·skip
       rintro n3 wg ⟨HX3, hq0, hq1, hbj, hlo3⟩
       have HX3 := Aside0.mk HX3
       have HBj := Aside0.mk hbj
       clear hbj
       have hHeld : Row wg w.heap.size .u64 5 f 27 ∧ Row wg (w.heap.size + 1) .u64 5 (fun _ => 0) 27 := ⟨hq0, hq1⟩
       clear hq0 hq1
       refine norm_ (a' := ?_) ?_ ?_
       rotate_left
       · simp only [putAll, Act.put, List.setIfInBounds_toArray, List.set_cons_zero, List.set_cons_succ]
         rfl
       refine one_ (i := 1) (N := some 6) #[true, true, false, true, false] rfl rfl (one_of HT_.out (by kernel_rfl)) (by decide) (fun K hK => ?_)
       refine goes_ Try.func42 rfl rfl #[.int .i64 252, .int .u8 2] rfl rfl rfl (by simp only [List.map_toArray, List.map_cons, List.map_nil]; rfl) ((exponent_calls 252 2 _ (by omega) (by omega)).mono ?_)
       rintro e wf3 ⟨rfl, hb⟩
       have hSn : Row wf3 w.heap.size .u64 5 f 27 ∧ Row wf3 (w.heap.size + 1) .u64 5 (fun _ => 0) 27 := ⟨hHeld.1.below hb hHeld.1.lt, hHeld.2.below hb hHeld.2.lt⟩
       have HBf := Aside0.mk (HBj.out.trans (hb.mono HBj.out.size))
       have HR3 := Aside0.mk (HX3.out.below hb HX3.out.lt)
       clear hb
       refine ⟨_, rfl, hK.out _ _ hSn (fun hHeld => ?_)⟩
       clear hSn hK K
       refine norm_ (a' := ?_) ?_ ?_
       rotate_left
       · show Act.put _ (some 6) _ = _
         simp only [Act.put, List.setIfInBounds_toArray, List.set_cons_zero, List.set_cons_succ, i64_w, i32_w]
         rfl
       exact norm_ (by first | (simp only [putAll, Act.put, List.setIfInBounds_toArray, List.set_cons_zero, List.set_cons_succ]; done) | (simp only [putAll, Act.put, List.setIfInBounds_toArray, List.set_cons_zero, List.set_cons_succ]; rfl)) (hJ1_3 n3 _ ⟨HR3.out, hHeld.1, hHeld.2, HBf.out, hlo3⟩)
     ·skip
      rintro _ wg ⟨hq0, hq1, hbj⟩
      have HBj := Aside0.mk hbj
      clear hbj
      have hHeld : Row wg w.heap.size .u64 5 f 27 ∧ Row wg (w.heap.size + 1) .u64 5 (fun _ => 0) 27 := ⟨hq0, hq1⟩
      clear hq0 hq1
      refine norm_ (a' := ?_) ?_ ?_
      rotate_left
      · simp only [putAll, Act.put, List.setIfInBounds_toArray, List.set_cons_zero, List.set_cons_succ]
        rfl
      refine two_ (i := 2) (j := 3) (Ni := some 7) (Nj := some 4) #[true, true, true, false, false] #[true, true, false, true, false] rfl rfl rfl rfl (by kernel_rfl) (by decide) (by decide) (fun K hK => ?_) (fun K hK => ?_)
      · skip
        refine goes_ Try.func28 rfl rfl #[.agg (FR .u64 5 (f)), .agg (FR .u8 32 (exB 252 2))] rfl rfl rfl (by simp only [List.map_toArray, List.map_cons, List.map_nil]; rfl) ((pow_elem f (exB 252 2) _ HF.out.1 (exB_By _ _)).mono ?_)
        rintro e wf4 ⟨rfl, hb⟩
        have hSn : Row wf4 w.heap.size .u64 5 f 27 ∧ Row wf4 (w.heap.size + 1) .u64 5 (fun _ => 0) 27 := ⟨hHeld.1.below hb hHeld.1.lt, hHeld.2.below hb hHeld.2.lt⟩
        have HBf := Aside0.mk (HBj.out.trans (hb.mono HBj.out.size))
        clear hb
        refine ⟨_, rfl, hK.out _ _ hSn (fun hHeld => ?_)⟩
        clear hSn hK K
        refine norm_ (a' := ?_) ?_ ?_
        rotate_left
        · show Act.put _ (some 7) _ = _
          simp only [Act.put, List.setIfInBounds_toArray, List.set_cons_zero, List.set_cons_succ, i64_w, i32_w]
          rfl
        exact norm_ (by first | (simp only [putAll, Act.put, List.setIfInBounds_toArray, List.set_cons_zero, List.set_cons_succ]; done) | (simp only [putAll, Act.put, List.setIfInBounds_toArray, List.set_cons_zero, List.set_cons_succ]; rfl)) (hJ1_2 () _ ⟨hHeld.1, hHeld.2, HBf.out⟩)
      · skip
        refine event_step (by rfl) (v := .pointer (some ⟨wg.heap.size, 0, none⟩)) (w1 := wg.alloc (.cells (FR .u64 5 fun _ => 0) 27)) (by first | (go_simp; done) | (go_simp; rfl)) ?_
        have hSn : Row (wg.alloc (.cells (FR .u64 5 fun _ => 0) 27)) w.heap.size .u64 5 f 27 ∧ Row (wg.alloc (.cells (FR .u64 5 fun _ => 0) 27)) (w.heap.size + 1) .u64 5 (fun _ => 0) 27 := ⟨hHeld.1.alloc _, hHeld.2.alloc _⟩
        have HBf := Aside0.mk (HBj.out.alloc HBj.out.size (.cells (FR .u64 5 fun _ => 0) 27))
        have hlo3 : (w.heap.size + 1) < wg.heap.size := hHeld.2.lt
        have HR3 := Aside0.mk (Row.new wg .u64 5 (fun _ => 0) 27)
        generalize wg.alloc (.cells (FR .u64 5 fun _ => 0) 27) = wf5 at hSn HBf HR3 ⊢
        refine hK.out _ _ hSn (fun hHeld => ?_)
        clear hSn hK K
        refine norm_ (a' := ?_) ?_ ?_
        rotate_left
        · show Act.put _ (some 4) _ = _
          simp only [Act.put, List.setIfInBounds_toArray, List.set_cons_zero, List.set_cons_succ, i64_w, i32_w]
          rfl
        exact norm_ (by first | (simp only [putAll, Act.put, List.setIfInBounds_toArray, List.set_cons_zero, List.set_cons_succ]; done) | (simp only [putAll, Act.put, List.setIfInBounds_toArray, List.set_cons_zero, List.set_cons_succ]; rfl)) (hJ1_3 wg.heap.size _ ⟨HR3.out, hHeld.1, hHeld.2, HBf.out, hlo3⟩)
    ·skip
     rintro n3 wg ⟨HX3, hq0, hq1, hbj, hlo3⟩
     have HX3 := Aside0.mk HX3
     have HBj := Aside0.mk hbj
     clear hbj
     have hHeld : Row wg w.heap.size .u64 5 f 27 ∧ Row wg (w.heap.size + 1) .u64 5 (fun _ => 0) 27 := ⟨hq0, hq1⟩
     clear hq0 hq1
     refine norm_ (a' := ?_) ?_ ?_
     rotate_left
     · simp only [putAll, Act.put, List.setIfInBounds_toArray, List.set_cons_zero, List.set_cons_succ]
       rfl
     refine one_ (i := 2) (N := some 7) #[true, true, true, true, false] rfl rfl (one_of HT_.out (by kernel_rfl)) (by decide) (fun K hK => ?_)
     refine goes_ Try.func28 rfl rfl #[.agg (FR .u64 5 (f)), .agg (FR .u8 32 (exB 252 2))] rfl rfl rfl (by simp only [List.map_toArray, List.map_cons, List.map_nil]; rfl) ((pow_elem f (exB 252 2) _ HF.out.1 (exB_By _ _)).mono ?_)
     rintro e wf6 ⟨rfl, hb⟩
     have hSn : Row wf6 w.heap.size .u64 5 f 27 ∧ Row wf6 (w.heap.size + 1) .u64 5 (fun _ => 0) 27 := ⟨hHeld.1.below hb hHeld.1.lt, hHeld.2.below hb hHeld.2.lt⟩
     have HBf := Aside0.mk (HBj.out.trans (hb.mono HBj.out.size))
     have HR3 := Aside0.mk (HX3.out.below hb HX3.out.lt)
     clear hb
     refine ⟨_, rfl, hK.out _ _ hSn (fun hHeld => ?_)⟩
     clear hSn hK K
     refine norm_ (a' := ?_) ?_ ?_
     rotate_left
     · show Act.put _ (some 7) _ = _
       simp only [Act.put, List.setIfInBounds_toArray, List.set_cons_zero, List.set_cons_succ, i64_w, i32_w]
       rfl
     exact norm_ (by first | (simp only [putAll, Act.put, List.setIfInBounds_toArray, List.set_cons_zero, List.set_cons_succ]; done) | (simp only [putAll, Act.put, List.setIfInBounds_toArray, List.set_cons_zero, List.set_cons_succ]; rfl)) (hJ1_2_3 n3 _ ⟨HR3.out, hHeld.1, hHeld.2, HBf.out, hlo3⟩)
   ·skip
    rintro _ wg ⟨hq0, hq1, hbj⟩
    have HBj := Aside0.mk hbj
    clear hbj
    have hHeld : Row wg w.heap.size .u64 5 f 27 ∧ Row wg (w.heap.size + 1) .u64 5 (fun _ => 0) 27 := ⟨hq0, hq1⟩
    clear hq0 hq1
    refine norm_ (a' := ?_) ?_ ?_
    rotate_left
    · simp only [putAll, Act.put, List.setIfInBounds_toArray, List.set_cons_zero, List.set_cons_succ]
      rfl
    refine one_ (i := 3) (N := some 4) #[true, true, true, true, false] rfl rfl (one_of HT_.out (by kernel_rfl)) (by decide) (fun K hK => ?_)
    refine event_step (by rfl) (v := .pointer (some ⟨wg.heap.size, 0, none⟩)) (w1 := wg.alloc (.cells (FR .u64 5 fun _ => 0) 27)) (by first | (go_simp; done) | (go_simp; rfl)) ?_
    have hSn : Row (wg.alloc (.cells (FR .u64 5 fun _ => 0) 27)) w.heap.size .u64 5 f 27 ∧ Row (wg.alloc (.cells (FR .u64 5 fun _ => 0) 27)) (w.heap.size + 1) .u64 5 (fun _ => 0) 27 := ⟨hHeld.1.alloc _, hHeld.2.alloc _⟩
    have HBf := Aside0.mk (HBj.out.alloc HBj.out.size (.cells (FR .u64 5 fun _ => 0) 27))
    have hlo3 : (w.heap.size + 1) < wg.heap.size := hHeld.2.lt
    have HR3 := Aside0.mk (Row.new wg .u64 5 (fun _ => 0) 27)
    generalize wg.alloc (.cells (FR .u64 5 fun _ => 0) 27) = wf7 at hSn HBf HR3 ⊢
    refine hK.out _ _ hSn (fun hHeld => ?_)
    clear hSn hK K
    refine norm_ (a' := ?_) ?_ ?_
    rotate_left
    · show Act.put _ (some 4) _ = _
      simp only [Act.put, List.setIfInBounds_toArray, List.set_cons_zero, List.set_cons_succ, i64_w, i32_w]
      rfl
    exact norm_ (by first | (simp only [putAll, Act.put, List.setIfInBounds_toArray, List.set_cons_zero, List.set_cons_succ]; done) | (simp only [putAll, Act.put, List.setIfInBounds_toArray, List.set_cons_zero, List.set_cons_succ]; rfl)) (hJ1_2_3 wg.heap.size _ ⟨HR3.out, hHeld.1, hHeld.2, HBf.out, hlo3⟩)
  rintro n3 wj ⟨HX3, hq0, hq1, hbj, hlo3⟩
  have HX3 := Aside0.mk HX3
  have HBj := Aside0.mk hbj
  clear hbj
  have hHeld : Row wj w.heap.size .u64 5 f 27 ∧ Row wj (w.heap.size + 1) .u64 5 (fun _ => 0) 27 := ⟨hq0, hq1⟩
  clear hq0 hq1
  refine norm_ (a' := ?_) ?_ ?_
  rotate_left
  · simp only [putAll, Act.put, List.setIfInBounds_toArray, List.set_cons_zero, List.set_cons_succ]
    rfl
  refine one_ (i := 4) (N := none) #[true, true, true, true, true] rfl rfl (one_of HT_.out (by kernel_rfl)) (by decide) (fun K hK => ?_)
  refine oper_storeG (x0E f) HX3.out info27 rfl rfl rfl rfl rfl ?_
  intro ws8 hs hr
  have hSn : Row ws8 w.heap.size .u64 5 f 27 ∧ Row ws8 (w.heap.size + 1) .u64 5 (fun _ => 0) 27 := ⟨hHeld.1.stored hs (by omega), hHeld.2.stored hs (by omega)⟩
  have HX3 := Aside0.mk hr
  have HBs8 := Aside0.mk (hs.bel _ _ (by omega) HBj.out)
  clear hs hr
  refine hK.out _ _ hSn (fun hHeld => ?_)
  clear hSn hK K
  refine done_ (done_of HT_.out (by kernel_rfl)) ?_
  have hl0 := hHeld.1.lt
  have hl1 := hHeld.2.lt
  have HXA := Aside0.mk hHeld.1
  have HXZ := Aside0.mk hHeld.2
  clear hHeld HT_ HW_
  try go_wp2
  cases hb0 : sq0 n
  · have HBV : Aside0 (decide (x0N n * x0N n % PP = n % PP) = false) := ⟨hb0⟩
    have HB0 := Aside0.mk hb0
    have HX1 : Aside0 (x1E f n = mulE (x0E f) iE) := ⟨x1E_n hb0⟩
    clear hb0
    have hh : Row ws8.drew w.heap.size .u64 5 f 27 ∧ Row ws8.drew (w.heap.size + 1) .u64 5 (fun _ => 0) 27 ∧ Row ws8.drew n3 .u64 5 (x0E f) 27 := ⟨HXA.out, HXZ.out, HX3.out⟩
    have HBq := Aside0.mk HBs8.out.drew
    clear HXA HXZ HX3 HBs8
    refine start_ (n := 6) (S := (fun w' => Row w' w.heap.size .u64 5 f 27 ∧ Row w' (w.heap.size + 1) .u64 5 (fun _ => 0) 27 ∧ Row w' n3 .u64 5 (x0E f) 27)) (ds := []) #[false, false, false, false, false, false] (by kernel_rfl) rfl rfl hh (fun hHeld => ?_); refine with_tabW tab3202 bits3202 (fun HT_ HW_ => ?_)
    generalize ws8.drew = wq at HBq hHeld hh ⊢
    clear hh
    refine take_ (i := 0) (N := some 8) (v := ?_) (a' := ?_) #[true, false, false, false, false, false] rfl rfl (take_ofW HT_.out HW_.out (by kernel_rfl)) (fun _ _ _ h => h) (Or.inl ⟨by rfl, ?_⟩) hHeld ?_ ?_
    rotate_left
    · intro w' hsw
      refine exec_load (x := .tmp 4) hsw.2.2 Try.underlying27 info27 rfl ?_ ?_ <;> rfl
    rotate_left
    · simp only [Act.put, List.setIfInBounds_toArray, List.set_cons_zero, List.set_cons_succ, i64_w, i32_w]
      rfl
    refine take_ (i := 1) (N := some 9) (v := ?_) (a' := ?_) #[true, true, false, false, false, false] rfl rfl (take_ofW HT_.out HW_.out (by kernel_rfl)) (fun _ _ _ h => h) (Or.inl ⟨by rfl, ?_⟩) hHeld ?_ ?_
    rotate_left
    · intro w' hsw
      refine exec_load (x := .tmp 4) hsw.2.2 Try.underlying27 info27 rfl ?_ ?_ <;> rfl
    rotate_left
    · simp only [Act.put, List.setIfInBounds_toArray, List.set_cons_zero, List.set_cons_succ, i64_w, i32_w]
      rfl
    refine take_ (i := 3) (N := some 11) (v := ?_) (a' := ?_) #[true, true, false, true, false, false] rfl rfl (take_ofW HT_.out HW_.out (by kernel_rfl)) (fun _ _ _ h => h) (Or.inl ⟨by rfl, ?_⟩) hHeld ?_ ?_
    rotate_left
    · intro w' hsw
      refine exec_load (x := .tmp 1) hsw.1 Try.underlying27 info27 rfl ?_ ?_ <;> rfl
    rotate_left
    · simp only [Act.put, List.setIfInBounds_toArray, List.set_cons_zero, List.set_cons_succ, i64_w, i32_w]
      rfl
    refine one_ (i := 2) (N := some 10) #[true, true, true, true, false, false] rfl rfl (one_of HT_.out (by kernel_rfl)) (by decide) (fun K hK => ?_)
    refine goes_ Try.func26 rfl rfl #[.agg (FR .u64 5 (x0E f)), .agg (FR .u64 5 (x0E f))] rfl rfl rfl (by simp only [List.map_toArray, List.map_cons, List.map_nil]; rfl) ((elem_mul_calls _ _ _ (x0E_Fe HF.out).1 (x0E_Fe HF.out).1).mono ?_)
    rintro e wc1101 ⟨rfl, hb⟩
    have hSn : Row wc1101 w.heap.size .u64 5 f 27 ∧ Row wc1101 (w.heap.size + 1) .u64 5 (fun _ => 0) 27 ∧ Row wc1101 n3 .u64 5 (x0E f) 27 := ⟨hHeld.1.below hb hHeld.1.lt, hHeld.2.1.below hb hHeld.2.1.lt, hHeld.2.2.below hb hHeld.2.2.lt⟩
    have HBc1101 := Aside0.mk (HBq.out.trans (hb.mono HBq.out.size))
    clear hb
    refine ⟨_, rfl, hK.out _ _ hSn (fun hHeld => ?_)⟩
    clear hSn
    clear hK K
    refine norm_ (a' := ?_) ?_ ?_
    rotate_left
    · show Act.put _ (some 10) _ = _
      simp only [Act.put, List.setIfInBounds_toArray, List.set_cons_zero, List.set_cons_succ, i64_w, i32_w]
      rfl
    refine one_ (i := 4) (N := some 12) #[true, true, true, true, true, false] rfl rfl (one_of HT_.out (by kernel_rfl)) (by decide) (fun K hK => ?_)
    refine goes_ Try.func17 rfl rfl #[.agg (FR .u64 5 (mulE (x0E f) (x0E f))), .agg (FR .u64 5 (f))] rfl rfl rfl (by simp only [List.map_toArray, List.map_cons, List.map_nil]; rfl) ((is_bool2 ((x0E_Fe HF.out).mul (x0E_Fe HF.out)) HF.out false HBV.out _).mono ?_)
    rintro e wc1102 ⟨rfl, hb⟩
    have hSn : Row wc1102 w.heap.size .u64 5 f 27 ∧ Row wc1102 (w.heap.size + 1) .u64 5 (fun _ => 0) 27 ∧ Row wc1102 n3 .u64 5 (x0E f) 27 := ⟨hHeld.1.below hb hHeld.1.lt, hHeld.2.1.below hb hHeld.2.1.lt, hHeld.2.2.below hb hHeld.2.2.lt⟩
    have HBc1102 := Aside0.mk (HBc1101.out.trans (hb.mono HBc1101.out.size))
    clear hb
    refine ⟨_, rfl, hK.out _ _ hSn (fun hHeld => ?_)⟩
    clear hSn
    clear hK K
    refine norm_ (a' := ?_) ?_ ?_
    rotate_left
    · show Act.put _ (some 12) _ = _
      simp only [Act.put, List.setIfInBounds_toArray, List.set_cons_zero, List.set_cons_succ, i64_w, i32_w]
      rfl
    refine pure_ (i := 5) (N := some 13) (v := ?_) (a' := ?_) #[true, true, true, true, true, true] rfl rfl (any_of HT_.out (by kernel_rfl)) (fun _ _ _ h => h) (Or.inl ⟨by rfl, ?_⟩) ?_ ?_
    rotate_left
    · intro w'
      go_simp
      with_reducible rfl
    rotate_left
    · simp only [Act.put, List.setIfInBounds_toArray, List.set_cons_zero, List.set_cons_succ, i64_w, i32_w]
      rfl
    refine done_ (done_of HT_.out (by kernel_rfl)) ?_
    have HXA := Aside0.mk hHeld.1
    have HXZ := Aside0.mk hHeld.2.1
    have HX3 := Aside0.mk hHeld.2.2
    have hl3 := HX3.out.lt
    clear hHeld HT_ HW_ HBV
    go_wp2_with fail
    have hh : Row wc1102.drew w.heap.size .u64 5 f 27 ∧ Row wc1102.drew (w.heap.size + 1) .u64 5 (fun _ => 0) 27 ∧ Row wc1102.drew n3 .u64 5 (x0E f) 27 := ⟨HXA.out, HXZ.out, HX3.out⟩
    have HBs := Aside0.mk HBc1102.out.drew
    clear HXA HXZ HX3 HBc1102
    refine start_ (n := 6) (S := (fun w' => Row w' w.heap.size .u64 5 f 27 ∧ Row w' (w.heap.size + 1) .u64 5 (fun _ => 0) 27 ∧ Row w' n3 .u64 5 (x0E f) 27)) (ds := [5]) #[false, false, false, false, false, false] (by kernel_rfl) rfl rfl hh (fun hHeld => ?_); refine with_tabW tab3203 bits3203 (fun HT_ HW_ => ?_)
    generalize wc1102.drew = w8 at HBs hHeld hh ⊢
    clear hh
    refine take_ (i := 0) (N := some 14) (v := ?_) (a' := ?_) #[true, false, false, false, false, false] rfl rfl (take_ofW HT_.out HW_.out (by kernel_rfl)) (fun _ _ _ h => h) (Or.inl ⟨by rfl, ?_⟩) hHeld ?_ ?_
    rotate_left
    · intro w' hsw
      refine exec_load (x := .tmp 4) hsw.2.2 Try.underlying27 info27 rfl ?_ ?_ <;> rfl
    rotate_left
    · simp only [Act.put, List.setIfInBounds_toArray, List.set_cons_zero, List.set_cons_succ, i64_w, i32_w]
      rfl
    refine one_ (i := 1) (N := some 15) #[true, true, false, false, false, false] rfl rfl (one_of HT_.out (by kernel_rfl)) (by decide) (fun K hK => ?_)
    refine goes_ Try.func11 rfl rfl #[.int .u32 2] rfl rfl rfl (by simp only [List.map_toArray, List.map_cons, List.map_nil]; rfl) ((small_elem_calls 2 _ (by omega)).mono ?_)
    rintro e wc2001 ⟨rfl, hb⟩
    have hSn : Row wc2001 w.heap.size .u64 5 f 27 ∧ Row wc2001 (w.heap.size + 1) .u64 5 (fun _ => 0) 27 ∧ Row wc2001 n3 .u64 5 (x0E f) 27 := ⟨hHeld.1.below hb hHeld.1.lt, hHeld.2.1.below hb hHeld.2.1.lt, hHeld.2.2.below hb hHeld.2.2.lt⟩
    have HBc2001 := Aside0.mk (HBs.out.trans (hb.mono HBs.out.size))
    clear hb
    refine ⟨_, rfl, hK.out _ _ hSn (fun hHeld => ?_)⟩
    clear hSn
    clear hK K
    refine norm_ (a' := ?_) ?_ ?_
    rotate_left
    · show Act.put _ (some 15) _ = _
      simp only [Act.put, List.setIfInBounds_toArray, List.set_cons_zero, List.set_cons_succ, i64_w, i32_w]
      rfl
    refine one_ (i := 2) (N := some 16) #[true, true, true, false, false, false] rfl rfl (one_of HT_.out (by kernel_rfl)) (by decide) (fun K hK => ?_)
    refine goes_ Try.func42 rfl rfl #[.int .i64 253, .int .u8 5] rfl rfl rfl (by simp only [List.map_toArray, List.map_cons, List.map_nil]; rfl) ((exponent_calls 253 5 _ (by omega) (by omega)).mono ?_)
    rintro e wc2002 ⟨rfl, hb⟩
    have hSn : Row wc2002 w.heap.size .u64 5 f 27 ∧ Row wc2002 (w.heap.size + 1) .u64 5 (fun _ => 0) 27 ∧ Row wc2002 n3 .u64 5 (x0E f) 27 := ⟨hHeld.1.below hb hHeld.1.lt, hHeld.2.1.below hb hHeld.2.1.lt, hHeld.2.2.below hb hHeld.2.2.lt⟩
    have HBc2002 := Aside0.mk (HBc2001.out.trans (hb.mono HBc2001.out.size))
    clear hb
    refine ⟨_, rfl, hK.out _ _ hSn (fun hHeld => ?_)⟩
    clear hSn
    clear hK K
    refine norm_ (a' := ?_) ?_ ?_
    rotate_left
    · show Act.put _ (some 16) _ = _
      simp only [Act.put, List.setIfInBounds_toArray, List.set_cons_zero, List.set_cons_succ, i64_w, i32_w]
      rfl
    refine one_ (i := 3) (N := some 17) #[true, true, true, true, false, false] rfl rfl (one_of HT_.out (by kernel_rfl)) (by decide) (fun K hK => ?_)
    refine goes_ Try.func28 rfl rfl #[.agg (FR .u64 5 (smL 2)), .agg (FR .u8 32 (exB 253 5))] rfl rfl rfl (by simp only [List.map_toArray, List.map_cons, List.map_nil]; rfl) ((pow_elem (smL 2) (exB 253 5) _ (Fe.small 2 (by omega)).1 (exB_By _ _)).mono ?_)
    rintro e wc2003 ⟨rfl, hb⟩
    have hSn : Row wc2003 w.heap.size .u64 5 f 27 ∧ Row wc2003 (w.heap.size + 1) .u64 5 (fun _ => 0) 27 ∧ Row wc2003 n3 .u64 5 (x0E f) 27 := ⟨hHeld.1.below hb hHeld.1.lt, hHeld.2.1.below hb hHeld.2.1.lt, hHeld.2.2.below hb hHeld.2.2.lt⟩
    have HBc2003 := Aside0.mk (HBc2002.out.trans (hb.mono HBc2002.out.size))
    clear hb
    refine ⟨_, rfl, hK.out _ _ hSn (fun hHeld => ?_)⟩
    clear hSn
    clear hK K
    refine norm_ (a' := ?_) ?_ ?_
    rotate_left
    · show Act.put _ (some 17) _ = _
      simp only [Act.put, List.setIfInBounds_toArray, List.set_cons_zero, List.set_cons_succ, i64_w, i32_w]
      rfl
    refine one_ (i := 4) (N := some 18) #[true, true, true, true, true, false] rfl rfl (one_of HT_.out (by kernel_rfl)) (by decide) (fun K hK => ?_)
    refine goes_ Try.func26 rfl rfl #[.agg (FR .u64 5 (x0E f)), .agg (FR .u64 5 (iE))] rfl rfl rfl (by simp only [List.map_toArray, List.map_cons, List.map_nil]; rfl) ((elem_mul_calls _ _ _ (x0E_Fe HF.out).1 iE_Fe.1).mono ?_)
    rintro e wc2004 ⟨rfl, hb⟩
    have hSn : Row wc2004 w.heap.size .u64 5 f 27 ∧ Row wc2004 (w.heap.size + 1) .u64 5 (fun _ => 0) 27 ∧ Row wc2004 n3 .u64 5 (x0E f) 27 := ⟨hHeld.1.below hb hHeld.1.lt, hHeld.2.1.below hb hHeld.2.1.lt, hHeld.2.2.below hb hHeld.2.2.lt⟩
    have HBc2004 := Aside0.mk (HBc2003.out.trans (hb.mono HBc2003.out.size))
    clear hb
    refine ⟨_, rfl, hK.out _ _ hSn (fun hHeld => ?_)⟩
    clear hSn
    clear hK K
    refine norm_ (a' := ?_) ?_ ?_
    rotate_left
    · show Act.put _ (some 18) _ = _
      simp only [Act.put, List.setIfInBounds_toArray, List.set_cons_zero, List.set_cons_succ, i64_w, i32_w]
      rfl
    refine last_ (i := 5) (N := none) #[true, true, true, true, true, true] rfl rfl (one_of HT_.out (by kernel_rfl)) (by decide) (fun K hK => ?_)
    refine oper_storeG (mulE (x0E f) iE) hHeld.2.2 info27 rfl rfl rfl rfl rfl ?_
    intro wk hs hr
    have HX3 : Aside0 (Row wk n3 .u64 5 (x1E f n) 27) := ⟨by rw [HX1.out]; exact hr⟩
    have HXA := Aside0.mk (hHeld.1.stored hs (by omega))
    have HXZ := Aside0.mk (hHeld.2.1.stored hs (by omega))
    have HBk := Aside0.mk (hs.bel _ _ (by omega) HBc2004.out)
    have hHc := hHeld
    clear hs hr
    refine hK.out _ _ ?_
    clear hK K
    refine done_ (done_of HT_.out (by kernel_rfl)) ?_
    try go_wp2
    clear hHeld HT_ HW_
    cases hb1 : rOk iZ n
    · have HBV : Aside0 (decide (x1N iZ n * x1N iZ n % PP = n % PP) = false) := ⟨hb1⟩
      have HB1 := Aside0.mk hb1
      clear hb1
      have hh : Row wk.drew w.heap.size .u64 5 f 27 ∧ Row wk.drew (w.heap.size + 1) .u64 5 (fun _ => 0) 27 ∧ Row wk.drew n3 .u64 5 (x1E f n) 27 := ⟨HXA.out, HXZ.out, HX3.out⟩
      have HBq := Aside0.mk HBk.out.drew
      clear HXA HXZ HX3 HBk
      refine start_ (n := 6) (S := (fun w' => Row w' w.heap.size .u64 5 f 27 ∧ Row w' (w.heap.size + 1) .u64 5 (fun _ => 0) 27 ∧ Row w' n3 .u64 5 (x1E f n) 27)) (ds := []) #[false, false, false, false, false, false] (by kernel_rfl) rfl rfl hh (fun hHeld => ?_); refine with_tabW tab3204 bits3204 (fun HT_ HW_ => ?_)
      generalize wk.drew = wq at HBq hHeld hh ⊢
      clear hh
      refine take_ (i := 0) (N := some 19) (v := ?_) (a' := ?_) #[true, false, false, false, false, false] rfl rfl (take_ofW HT_.out HW_.out (by kernel_rfl)) (fun _ _ _ h => h) (Or.inl ⟨by rfl, ?_⟩) hHeld ?_ ?_
      rotate_left
      · intro w' hsw
        refine exec_load (x := .tmp 4) hsw.2.2 Try.underlying27 info27 rfl ?_ ?_ <;> rfl
      rotate_left
      · simp only [Act.put, List.setIfInBounds_toArray, List.set_cons_zero, List.set_cons_succ, i64_w, i32_w]
        rfl
      refine take_ (i := 1) (N := some 20) (v := ?_) (a' := ?_) #[true, true, false, false, false, false] rfl rfl (take_ofW HT_.out HW_.out (by kernel_rfl)) (fun _ _ _ h => h) (Or.inl ⟨by rfl, ?_⟩) hHeld ?_ ?_
      rotate_left
      · intro w' hsw
        refine exec_load (x := .tmp 4) hsw.2.2 Try.underlying27 info27 rfl ?_ ?_ <;> rfl
      rotate_left
      · simp only [Act.put, List.setIfInBounds_toArray, List.set_cons_zero, List.set_cons_succ, i64_w, i32_w]
        rfl
      refine take_ (i := 3) (N := some 22) (v := ?_) (a' := ?_) #[true, true, false, true, false, false] rfl rfl (take_ofW HT_.out HW_.out (by kernel_rfl)) (fun _ _ _ h => h) (Or.inl ⟨by rfl, ?_⟩) hHeld ?_ ?_
      rotate_left
      · intro w' hsw
        refine exec_load (x := .tmp 1) hsw.1 Try.underlying27 info27 rfl ?_ ?_ <;> rfl
      rotate_left
      · simp only [Act.put, List.setIfInBounds_toArray, List.set_cons_zero, List.set_cons_succ, i64_w, i32_w]
        rfl
      refine one_ (i := 2) (N := some 21) #[true, true, true, true, false, false] rfl rfl (one_of HT_.out (by kernel_rfl)) (by decide) (fun K hK => ?_)
      refine goes_ Try.func26 rfl rfl #[.agg (FR .u64 5 (x1E f n)), .agg (FR .u64 5 (x1E f n))] rfl rfl rfl (by simp only [List.map_toArray, List.map_cons, List.map_nil]; rfl) ((elem_mul_calls _ _ _ (x1E_Fe HF.out).1 (x1E_Fe HF.out).1).mono ?_)
      rintro e wc1801 ⟨rfl, hb⟩
      have hSn : Row wc1801 w.heap.size .u64 5 f 27 ∧ Row wc1801 (w.heap.size + 1) .u64 5 (fun _ => 0) 27 ∧ Row wc1801 n3 .u64 5 (x1E f n) 27 := ⟨hHeld.1.below hb hHeld.1.lt, hHeld.2.1.below hb hHeld.2.1.lt, hHeld.2.2.below hb hHeld.2.2.lt⟩
      have HBc1801 := Aside0.mk (HBq.out.trans (hb.mono HBq.out.size))
      clear hb
      refine ⟨_, rfl, hK.out _ _ hSn (fun hHeld => ?_)⟩
      clear hSn
      clear hK K
      refine norm_ (a' := ?_) ?_ ?_
      rotate_left
      · show Act.put _ (some 21) _ = _
        simp only [Act.put, List.setIfInBounds_toArray, List.set_cons_zero, List.set_cons_succ, i64_w, i32_w]
        rfl
      refine one_ (i := 4) (N := some 23) #[true, true, true, true, true, false] rfl rfl (one_of HT_.out (by kernel_rfl)) (by decide) (fun K hK => ?_)
      refine goes_ Try.func17 rfl rfl #[.agg (FR .u64 5 (mulE (x1E f n) (x1E f n))), .agg (FR .u64 5 (f))] rfl rfl rfl (by simp only [List.map_toArray, List.map_cons, List.map_nil]; rfl) ((is_bool2 ((x1E_Fe HF.out).mul (x1E_Fe HF.out)) HF.out false HBV.out _).mono ?_)
      rintro e wc1802 ⟨rfl, hb⟩
      have hSn : Row wc1802 w.heap.size .u64 5 f 27 ∧ Row wc1802 (w.heap.size + 1) .u64 5 (fun _ => 0) 27 ∧ Row wc1802 n3 .u64 5 (x1E f n) 27 := ⟨hHeld.1.below hb hHeld.1.lt, hHeld.2.1.below hb hHeld.2.1.lt, hHeld.2.2.below hb hHeld.2.2.lt⟩
      have HBc1802 := Aside0.mk (HBc1801.out.trans (hb.mono HBc1801.out.size))
      clear hb
      refine ⟨_, rfl, hK.out _ _ hSn (fun hHeld => ?_)⟩
      clear hSn
      clear hK K
      refine norm_ (a' := ?_) ?_ ?_
      rotate_left
      · show Act.put _ (some 23) _ = _
        simp only [Act.put, List.setIfInBounds_toArray, List.set_cons_zero, List.set_cons_succ, i64_w, i32_w]
        rfl
      refine pure_ (i := 5) (N := some 24) (v := ?_) (a' := ?_) #[true, true, true, true, true, true] rfl rfl (any_of HT_.out (by kernel_rfl)) (fun _ _ _ h => h) (Or.inl ⟨by rfl, ?_⟩) ?_ ?_
      rotate_left
      · intro w'
        go_simp
        with_reducible rfl
      rotate_left
      · simp only [Act.put, List.setIfInBounds_toArray, List.set_cons_zero, List.set_cons_succ, i64_w, i32_w]
        rfl
      refine done_ (done_of HT_.out (by kernel_rfl)) ?_
      have HXA := Aside0.mk hHeld.1
      have HXZ := Aside0.mk hHeld.2.1
      have HX3 := Aside0.mk hHeld.2.2
      have hl3 := HX3.out.lt
      clear hHeld HT_ HW_ HBV
      go_wp2_with (refine step_storeG (fun _ => 0) HXZ.out info27 rfl rfl rfl rfl rfl ?_; intro wz hs hr; have HSz := Aside0.mk hs; have HRz := Aside0.mk hr; clear hs hr)
      refine bodyPost_ret (row_results2 rfl HRz.out rfl Try.underlying27 rfl info27) rfl ?_
      refine ⟨?_, HSz.out.bel _ _ (by omega) HBc1802.out⟩
      rw [rtE_no HB1.out, HB1.out]
      rfl
    · have HBV : Aside0 (decide (x1N iZ n * x1N iZ n % PP = n % PP) = true) := ⟨hb1⟩
      have HB1 := Aside0.mk hb1
      clear hb1
      have hh : Row wk.drew w.heap.size .u64 5 f 27 ∧ Row wk.drew (w.heap.size + 1) .u64 5 (fun _ => 0) 27 ∧ Row wk.drew n3 .u64 5 (x1E f n) 27 := ⟨HXA.out, HXZ.out, HX3.out⟩
      have HBq := Aside0.mk HBk.out.drew
      clear HXA HXZ HX3 HBk
      refine start_ (n := 6) (S := (fun w' => Row w' w.heap.size .u64 5 f 27 ∧ Row w' (w.heap.size + 1) .u64 5 (fun _ => 0) 27 ∧ Row w' n3 .u64 5 (x1E f n) 27)) (ds := []) #[false, false, false, false, false, false] (by kernel_rfl) rfl rfl hh (fun hHeld => ?_); refine with_tabW tab3204 bits3204 (fun HT_ HW_ => ?_)
      generalize wk.drew = wq at HBq hHeld hh ⊢
      clear hh
      refine take_ (i := 0) (N := some 19) (v := ?_) (a' := ?_) #[true, false, false, false, false, false] rfl rfl (take_ofW HT_.out HW_.out (by kernel_rfl)) (fun _ _ _ h => h) (Or.inl ⟨by rfl, ?_⟩) hHeld ?_ ?_
      rotate_left
      · intro w' hsw
        refine exec_load (x := .tmp 4) hsw.2.2 Try.underlying27 info27 rfl ?_ ?_ <;> rfl
      rotate_left
      · simp only [Act.put, List.setIfInBounds_toArray, List.set_cons_zero, List.set_cons_succ, i64_w, i32_w]
        rfl
      refine take_ (i := 1) (N := some 20) (v := ?_) (a' := ?_) #[true, true, false, false, false, false] rfl rfl (take_ofW HT_.out HW_.out (by kernel_rfl)) (fun _ _ _ h => h) (Or.inl ⟨by rfl, ?_⟩) hHeld ?_ ?_
      rotate_left
      · intro w' hsw
        refine exec_load (x := .tmp 4) hsw.2.2 Try.underlying27 info27 rfl ?_ ?_ <;> rfl
      rotate_left
      · simp only [Act.put, List.setIfInBounds_toArray, List.set_cons_zero, List.set_cons_succ, i64_w, i32_w]
        rfl
      refine take_ (i := 3) (N := some 22) (v := ?_) (a' := ?_) #[true, true, false, true, false, false] rfl rfl (take_ofW HT_.out HW_.out (by kernel_rfl)) (fun _ _ _ h => h) (Or.inl ⟨by rfl, ?_⟩) hHeld ?_ ?_
      rotate_left
      · intro w' hsw
        refine exec_load (x := .tmp 1) hsw.1 Try.underlying27 info27 rfl ?_ ?_ <;> rfl
      rotate_left
      · simp only [Act.put, List.setIfInBounds_toArray, List.set_cons_zero, List.set_cons_succ, i64_w, i32_w]
        rfl
      refine one_ (i := 2) (N := some 21) #[true, true, true, true, false, false] rfl rfl (one_of HT_.out (by kernel_rfl)) (by decide) (fun K hK => ?_)
      refine goes_ Try.func26 rfl rfl #[.agg (FR .u64 5 (x1E f n)), .agg (FR .u64 5 (x1E f n))] rfl rfl rfl (by simp only [List.map_toArray, List.map_cons, List.map_nil]; rfl) ((elem_mul_calls _ _ _ (x1E_Fe HF.out).1 (x1E_Fe HF.out).1).mono ?_)
      rintro e wc1821 ⟨rfl, hb⟩
      have hSn : Row wc1821 w.heap.size .u64 5 f 27 ∧ Row wc1821 (w.heap.size + 1) .u64 5 (fun _ => 0) 27 ∧ Row wc1821 n3 .u64 5 (x1E f n) 27 := ⟨hHeld.1.below hb hHeld.1.lt, hHeld.2.1.below hb hHeld.2.1.lt, hHeld.2.2.below hb hHeld.2.2.lt⟩
      have HBc1821 := Aside0.mk (HBq.out.trans (hb.mono HBq.out.size))
      clear hb
      refine ⟨_, rfl, hK.out _ _ hSn (fun hHeld => ?_)⟩
      clear hSn
      clear hK K
      refine norm_ (a' := ?_) ?_ ?_
      rotate_left
      · show Act.put _ (some 21) _ = _
        simp only [Act.put, List.setIfInBounds_toArray, List.set_cons_zero, List.set_cons_succ, i64_w, i32_w]
        rfl
      refine one_ (i := 4) (N := some 23) #[true, true, true, true, true, false] rfl rfl (one_of HT_.out (by kernel_rfl)) (by decide) (fun K hK => ?_)
      refine goes_ Try.func17 rfl rfl #[.agg (FR .u64 5 (mulE (x1E f n) (x1E f n))), .agg (FR .u64 5 (f))] rfl rfl rfl (by simp only [List.map_toArray, List.map_cons, List.map_nil]; rfl) ((is_bool2 ((x1E_Fe HF.out).mul (x1E_Fe HF.out)) HF.out true HBV.out _).mono ?_)
      rintro e wc1822 ⟨rfl, hb⟩
      have hSn : Row wc1822 w.heap.size .u64 5 f 27 ∧ Row wc1822 (w.heap.size + 1) .u64 5 (fun _ => 0) 27 ∧ Row wc1822 n3 .u64 5 (x1E f n) 27 := ⟨hHeld.1.below hb hHeld.1.lt, hHeld.2.1.below hb hHeld.2.1.lt, hHeld.2.2.below hb hHeld.2.2.lt⟩
      have HBc1822 := Aside0.mk (HBc1821.out.trans (hb.mono HBc1821.out.size))
      clear hb
      refine ⟨_, rfl, hK.out _ _ hSn (fun hHeld => ?_)⟩
      clear hSn
      clear hK K
      refine norm_ (a' := ?_) ?_ ?_
      rotate_left
      · show Act.put _ (some 23) _ = _
        simp only [Act.put, List.setIfInBounds_toArray, List.set_cons_zero, List.set_cons_succ, i64_w, i32_w]
        rfl
      refine pure_ (i := 5) (N := some 24) (v := ?_) (a' := ?_) #[true, true, true, true, true, true] rfl rfl (any_of HT_.out (by kernel_rfl)) (fun _ _ _ h => h) (Or.inl ⟨by rfl, ?_⟩) ?_ ?_
      rotate_left
      · intro w'
        go_simp
        with_reducible rfl
      rotate_left
      · simp only [Act.put, List.setIfInBounds_toArray, List.set_cons_zero, List.set_cons_succ, i64_w, i32_w]
        rfl
      refine done_ (done_of HT_.out (by kernel_rfl)) ?_
      have HXA := Aside0.mk hHeld.1
      have HXZ := Aside0.mk hHeld.2.1
      have HX3 := Aside0.mk hHeld.2.2
      have hl3 := HX3.out.lt
      clear hHeld HT_ HW_ HBV
      go_wp2_with (refine step_load HX3.out Try.underlying27 info27 rfl rfl rfl rfl ?_)
      cases hod : rOdd iZ n
      · refine (odd_bool (x1E_Fe HF.out) false hod _).mono ?_
        rintro e wo ⟨rfl, hb⟩
        have HXZ2 := Aside0.mk (HXZ.out.below hb HXZ.out.lt)
        have HX32 := Aside0.mk (HX3.out.below hb HX3.out.lt)
        have HBo := Aside0.mk (HBc1822.out.trans (hb.mono HBc1822.out.size))
        have HOD := Aside0.mk hod
        have hlz2 := HXZ2.out.lt
        clear hb hod
        go_wp2_with (first | refine step_load HX32.out Try.underlying27 info27 rfl rfl rfl rfl ?_ | (refine step_storeG (x1E f n) HXZ2.out info27 rfl rfl rfl rfl rfl ?_; intro wz hs hr; have HSz := Aside0.mk hs; have HRz := Aside0.mk hr; clear hs hr))
        refine bodyPost_ret (row_results2 rfl HRz.out rfl Try.underlying27 rfl info27) rfl ?_
        refine ⟨?_, HSz.out.bel _ _ (by omega) HBo.out⟩
        rw [rtE_n HB1.out HOD.out, HB1.out]
        rfl
      · refine (odd_bool (x1E_Fe HF.out) true hod _).mono ?_
        rintro e wo ⟨rfl, hb⟩
        have HXZ2 := Aside0.mk (HXZ.out.below hb HXZ.out.lt)
        have HX32 := Aside0.mk (HX3.out.below hb HX3.out.lt)
        have HBo := Aside0.mk (HBc1822.out.trans (hb.mono HBc1822.out.size))
        have HOD := Aside0.mk hod
        have hlz2 := HXZ2.out.lt
        clear hb hod
        go_wp2_with (refine step_load HX32.out Try.underlying27 info27 rfl rfl rfl rfl ?_)
        refine (negE_c _ _ (x1E_Fe HF.out).1).mono ?_
        rintro e wn ⟨rfl, hb⟩
        have HXZ3 := Aside0.mk (HXZ2.out.below hb HXZ2.out.lt)
        have HX33 := Aside0.mk (HX32.out.below hb HX32.out.lt)
        have HBn := Aside0.mk (HBo.out.trans (hb.mono HBo.out.size))
        clear hb
        go_wp2_with (first | (refine step_storeG (negE (x1E f n)) HX33.out info27 rfl rfl rfl rfl rfl ?_; intro wy hs hr; have HBy := Aside0.mk (hs.bel _ _ (show w.heap.size ≤ n3 by omega) HBn.out); have HX34 := Aside0.mk hr; have HXZ4 := Aside0.mk (HXZ3.out.stored hs (by omega)); clear hs hr) | refine step_load HX34.out Try.underlying27 info27 rfl rfl rfl rfl ?_ | (refine step_storeG (negE (x1E f n)) HXZ4.out info27 rfl rfl rfl rfl rfl ?_; intro wz hs hr; have HSz := Aside0.mk hs; have HRz := Aside0.mk hr; clear hs hr))
        refine bodyPost_ret (row_results2 rfl HRz.out rfl Try.underlying27 rfl info27) rfl ?_
        refine ⟨?_, HSz.out.bel _ _ (by omega) HBy.out⟩
        rw [rtE_y HB1.out HOD.out, HB1.out]
        rfl
  · have HBV : Aside0 (decide (x0N n * x0N n % PP = n % PP) = true) := ⟨hb0⟩
    have HB0 := Aside0.mk hb0
    have HX1 : Aside0 (x1E f n = x0E f) := ⟨x1E_y hb0⟩
    clear hb0
    have hh : Row ws8.drew w.heap.size .u64 5 f 27 ∧ Row ws8.drew (w.heap.size + 1) .u64 5 (fun _ => 0) 27 ∧ Row ws8.drew n3 .u64 5 (x0E f) 27 := ⟨HXA.out, HXZ.out, HX3.out⟩
    have HBq := Aside0.mk HBs8.out.drew
    clear HXA HXZ HX3 HBs8
    refine start_ (n := 6) (S := (fun w' => Row w' w.heap.size .u64 5 f 27 ∧ Row w' (w.heap.size + 1) .u64 5 (fun _ => 0) 27 ∧ Row w' n3 .u64 5 (x0E f) 27)) (ds := []) #[false, false, false, false, false, false] (by kernel_rfl) rfl rfl hh (fun hHeld => ?_); refine with_tabW tab3202 bits3202 (fun HT_ HW_ => ?_)
    generalize ws8.drew = wq at HBq hHeld hh ⊢
    clear hh
    refine take_ (i := 0) (N := some 8) (v := ?_) (a' := ?_) #[true, false, false, false, false, false] rfl rfl (take_ofW HT_.out HW_.out (by kernel_rfl)) (fun _ _ _ h => h) (Or.inl ⟨by rfl, ?_⟩) hHeld ?_ ?_
    rotate_left
    · intro w' hsw
      refine exec_load (x := .tmp 4) hsw.2.2 Try.underlying27 info27 rfl ?_ ?_ <;> rfl
    rotate_left
    · simp only [Act.put, List.setIfInBounds_toArray, List.set_cons_zero, List.set_cons_succ, i64_w, i32_w]
      rfl
    refine take_ (i := 1) (N := some 9) (v := ?_) (a' := ?_) #[true, true, false, false, false, false] rfl rfl (take_ofW HT_.out HW_.out (by kernel_rfl)) (fun _ _ _ h => h) (Or.inl ⟨by rfl, ?_⟩) hHeld ?_ ?_
    rotate_left
    · intro w' hsw
      refine exec_load (x := .tmp 4) hsw.2.2 Try.underlying27 info27 rfl ?_ ?_ <;> rfl
    rotate_left
    · simp only [Act.put, List.setIfInBounds_toArray, List.set_cons_zero, List.set_cons_succ, i64_w, i32_w]
      rfl
    refine take_ (i := 3) (N := some 11) (v := ?_) (a' := ?_) #[true, true, false, true, false, false] rfl rfl (take_ofW HT_.out HW_.out (by kernel_rfl)) (fun _ _ _ h => h) (Or.inl ⟨by rfl, ?_⟩) hHeld ?_ ?_
    rotate_left
    · intro w' hsw
      refine exec_load (x := .tmp 1) hsw.1 Try.underlying27 info27 rfl ?_ ?_ <;> rfl
    rotate_left
    · simp only [Act.put, List.setIfInBounds_toArray, List.set_cons_zero, List.set_cons_succ, i64_w, i32_w]
      rfl
    refine one_ (i := 2) (N := some 10) #[true, true, true, true, false, false] rfl rfl (one_of HT_.out (by kernel_rfl)) (by decide) (fun K hK => ?_)
    refine goes_ Try.func26 rfl rfl #[.agg (FR .u64 5 (x0E f)), .agg (FR .u64 5 (x0E f))] rfl rfl rfl (by simp only [List.map_toArray, List.map_cons, List.map_nil]; rfl) ((elem_mul_calls _ _ _ (x0E_Fe HF.out).1 (x0E_Fe HF.out).1).mono ?_)
    rintro e wc1001 ⟨rfl, hb⟩
    have hSn : Row wc1001 w.heap.size .u64 5 f 27 ∧ Row wc1001 (w.heap.size + 1) .u64 5 (fun _ => 0) 27 ∧ Row wc1001 n3 .u64 5 (x0E f) 27 := ⟨hHeld.1.below hb hHeld.1.lt, hHeld.2.1.below hb hHeld.2.1.lt, hHeld.2.2.below hb hHeld.2.2.lt⟩
    have HBc1001 := Aside0.mk (HBq.out.trans (hb.mono HBq.out.size))
    clear hb
    refine ⟨_, rfl, hK.out _ _ hSn (fun hHeld => ?_)⟩
    clear hSn
    clear hK K
    refine norm_ (a' := ?_) ?_ ?_
    rotate_left
    · show Act.put _ (some 10) _ = _
      simp only [Act.put, List.setIfInBounds_toArray, List.set_cons_zero, List.set_cons_succ, i64_w, i32_w]
      rfl
    refine one_ (i := 4) (N := some 12) #[true, true, true, true, true, false] rfl rfl (one_of HT_.out (by kernel_rfl)) (by decide) (fun K hK => ?_)
    refine goes_ Try.func17 rfl rfl #[.agg (FR .u64 5 (mulE (x0E f) (x0E f))), .agg (FR .u64 5 (f))] rfl rfl rfl (by simp only [List.map_toArray, List.map_cons, List.map_nil]; rfl) ((is_bool2 ((x0E_Fe HF.out).mul (x0E_Fe HF.out)) HF.out true HBV.out _).mono ?_)
    rintro e wc1002 ⟨rfl, hb⟩
    have hSn : Row wc1002 w.heap.size .u64 5 f 27 ∧ Row wc1002 (w.heap.size + 1) .u64 5 (fun _ => 0) 27 ∧ Row wc1002 n3 .u64 5 (x0E f) 27 := ⟨hHeld.1.below hb hHeld.1.lt, hHeld.2.1.below hb hHeld.2.1.lt, hHeld.2.2.below hb hHeld.2.2.lt⟩
    have HBc1002 := Aside0.mk (HBc1001.out.trans (hb.mono HBc1001.out.size))
    clear hb
    refine ⟨_, rfl, hK.out _ _ hSn (fun hHeld => ?_)⟩
    clear hSn
    clear hK K
    refine norm_ (a' := ?_) ?_ ?_
    rotate_left
    · show Act.put _ (some 12) _ = _
      simp only [Act.put, List.setIfInBounds_toArray, List.set_cons_zero, List.set_cons_succ, i64_w, i32_w]
      rfl
    refine pure_ (i := 5) (N := some 13) (v := ?_) (a' := ?_) #[true, true, true, true, true, true] rfl rfl (any_of HT_.out (by kernel_rfl)) (fun _ _ _ h => h) (Or.inl ⟨by rfl, ?_⟩) ?_ ?_
    rotate_left
    · intro w'
      go_simp
      with_reducible rfl
    rotate_left
    · simp only [Act.put, List.setIfInBounds_toArray, List.set_cons_zero, List.set_cons_succ, i64_w, i32_w]
      rfl
    refine done_ (done_of HT_.out (by kernel_rfl)) ?_
    have HXA := Aside0.mk hHeld.1
    have HXZ := Aside0.mk hHeld.2.1
    have HX3 := Aside0.mk hHeld.2.2
    have hl3 := HX3.out.lt
    clear hHeld HT_ HW_ HBV
    have HX3 : Aside0 (Row wc1002 n3 .u64 5 (x1E f n) 27) := ⟨by rw [HX1.out]; exact HX3.out⟩
    go_wp2_with fail
    cases hb1 : rOk iZ n
    · have HBV : Aside0 (decide (x1N iZ n * x1N iZ n % PP = n % PP) = false) := ⟨hb1⟩
      have HB1 := Aside0.mk hb1
      clear hb1
      have hh : Row wc1002.drew w.heap.size .u64 5 f 27 ∧ Row wc1002.drew (w.heap.size + 1) .u64 5 (fun _ => 0) 27 ∧ Row wc1002.drew n3 .u64 5 (x1E f n) 27 := ⟨HXA.out, HXZ.out, HX3.out⟩
      have HBq := Aside0.mk HBc1002.out.drew
      clear HXA HXZ HX3 HBc1002
      refine start_ (n := 6) (S := (fun w' => Row w' w.heap.size .u64 5 f 27 ∧ Row w' (w.heap.size + 1) .u64 5 (fun _ => 0) 27 ∧ Row w' n3 .u64 5 (x1E f n) 27)) (ds := []) #[false, false, false, false, false, false] (by kernel_rfl) rfl rfl hh (fun hHeld => ?_); refine with_tabW tab3204 bits3204 (fun HT_ HW_ => ?_)
      generalize wc1002.drew = wq at HBq hHeld hh ⊢
      clear hh
      refine take_ (i := 0) (N := some 19) (v := ?_) (a' := ?_) #[true, false, false, false, false, false] rfl rfl (take_ofW HT_.out HW_.out (by kernel_rfl)) (fun _ _ _ h => h) (Or.inl ⟨by rfl, ?_⟩) hHeld ?_ ?_
      rotate_left
      · intro w' hsw
        refine exec_load (x := .tmp 4) hsw.2.2 Try.underlying27 info27 rfl ?_ ?_ <;> rfl
      rotate_left
      · simp only [Act.put, List.setIfInBounds_toArray, List.set_cons_zero, List.set_cons_succ, i64_w, i32_w]
        rfl
      refine take_ (i := 1) (N := some 20) (v := ?_) (a' := ?_) #[true, true, false, false, false, false] rfl rfl (take_ofW HT_.out HW_.out (by kernel_rfl)) (fun _ _ _ h => h) (Or.inl ⟨by rfl, ?_⟩) hHeld ?_ ?_
      rotate_left
      · intro w' hsw
        refine exec_load (x := .tmp 4) hsw.2.2 Try.underlying27 info27 rfl ?_ ?_ <;> rfl
      rotate_left
      · simp only [Act.put, List.setIfInBounds_toArray, List.set_cons_zero, List.set_cons_succ, i64_w, i32_w]
        rfl
      refine take_ (i := 3) (N := some 22) (v := ?_) (a' := ?_) #[true, true, false, true, false, false] rfl rfl (take_ofW HT_.out HW_.out (by kernel_rfl)) (fun _ _ _ h => h) (Or.inl ⟨by rfl, ?_⟩) hHeld ?_ ?_
      rotate_left
      · intro w' hsw
        refine exec_load (x := .tmp 1) hsw.1 Try.underlying27 info27 rfl ?_ ?_ <;> rfl
      rotate_left
      · simp only [Act.put, List.setIfInBounds_toArray, List.set_cons_zero, List.set_cons_succ, i64_w, i32_w]
        rfl
      refine one_ (i := 2) (N := some 21) #[true, true, true, true, false, false] rfl rfl (one_of HT_.out (by kernel_rfl)) (by decide) (fun K hK => ?_)
      refine goes_ Try.func26 rfl rfl #[.agg (FR .u64 5 (x1E f n)), .agg (FR .u64 5 (x1E f n))] rfl rfl rfl (by simp only [List.map_toArray, List.map_cons, List.map_nil]; rfl) ((elem_mul_calls _ _ _ (x1E_Fe HF.out).1 (x1E_Fe HF.out).1).mono ?_)
      rintro e wc1401 ⟨rfl, hb⟩
      have hSn : Row wc1401 w.heap.size .u64 5 f 27 ∧ Row wc1401 (w.heap.size + 1) .u64 5 (fun _ => 0) 27 ∧ Row wc1401 n3 .u64 5 (x1E f n) 27 := ⟨hHeld.1.below hb hHeld.1.lt, hHeld.2.1.below hb hHeld.2.1.lt, hHeld.2.2.below hb hHeld.2.2.lt⟩
      have HBc1401 := Aside0.mk (HBq.out.trans (hb.mono HBq.out.size))
      clear hb
      refine ⟨_, rfl, hK.out _ _ hSn (fun hHeld => ?_)⟩
      clear hSn
      clear hK K
      refine norm_ (a' := ?_) ?_ ?_
      rotate_left
      · show Act.put _ (some 21) _ = _
        simp only [Act.put, List.setIfInBounds_toArray, List.set_cons_zero, List.set_cons_succ, i64_w, i32_w]
        rfl
      refine one_ (i := 4) (N := some 23) #[true, true, true, true, true, false] rfl rfl (one_of HT_.out (by kernel_rfl)) (by decide) (fun K hK => ?_)
      refine goes_ Try.func17 rfl rfl #[.agg (FR .u64 5 (mulE (x1E f n) (x1E f n))), .agg (FR .u64 5 (f))] rfl rfl rfl (by simp only [List.map_toArray, List.map_cons, List.map_nil]; rfl) ((is_bool2 ((x1E_Fe HF.out).mul (x1E_Fe HF.out)) HF.out false HBV.out _).mono ?_)
      rintro e wc1402 ⟨rfl, hb⟩
      have hSn : Row wc1402 w.heap.size .u64 5 f 27 ∧ Row wc1402 (w.heap.size + 1) .u64 5 (fun _ => 0) 27 ∧ Row wc1402 n3 .u64 5 (x1E f n) 27 := ⟨hHeld.1.below hb hHeld.1.lt, hHeld.2.1.below hb hHeld.2.1.lt, hHeld.2.2.below hb hHeld.2.2.lt⟩
      have HBc1402 := Aside0.mk (HBc1401.out.trans (hb.mono HBc1401.out.size))
      clear hb
      refine ⟨_, rfl, hK.out _ _ hSn (fun hHeld => ?_)⟩
      clear hSn
      clear hK K
      refine norm_ (a' := ?_) ?_ ?_
      rotate_left
      · show Act.put _ (some 23) _ = _
        simp only [Act.put, List.setIfInBounds_toArray, List.set_cons_zero, List.set_cons_succ, i64_w, i32_w]
        rfl
      refine pure_ (i := 5) (N := some 24) (v := ?_) (a' := ?_) #[true, true, true, true, true, true] rfl rfl (any_of HT_.out (by kernel_rfl)) (fun _ _ _ h => h) (Or.inl ⟨by rfl, ?_⟩) ?_ ?_
      rotate_left
      · intro w'
        go_simp
        with_reducible rfl
      rotate_left
      · simp only [Act.put, List.setIfInBounds_toArray, List.set_cons_zero, List.set_cons_succ, i64_w, i32_w]
        rfl
      refine done_ (done_of HT_.out (by kernel_rfl)) ?_
      have HXA := Aside0.mk hHeld.1
      have HXZ := Aside0.mk hHeld.2.1
      have HX3 := Aside0.mk hHeld.2.2
      have hl3 := HX3.out.lt
      clear hHeld HT_ HW_ HBV
      go_wp2_with (refine step_storeG (fun _ => 0) HXZ.out info27 rfl rfl rfl rfl rfl ?_; intro wz hs hr; have HSz := Aside0.mk hs; have HRz := Aside0.mk hr; clear hs hr)
      refine bodyPost_ret (row_results2 rfl HRz.out rfl Try.underlying27 rfl info27) rfl ?_
      refine ⟨?_, HSz.out.bel _ _ (by omega) HBc1402.out⟩
      rw [rtE_no HB1.out, HB1.out]
      rfl
    · have HBV : Aside0 (decide (x1N iZ n * x1N iZ n % PP = n % PP) = true) := ⟨hb1⟩
      have HB1 := Aside0.mk hb1
      clear hb1
      have hh : Row wc1002.drew w.heap.size .u64 5 f 27 ∧ Row wc1002.drew (w.heap.size + 1) .u64 5 (fun _ => 0) 27 ∧ Row wc1002.drew n3 .u64 5 (x1E f n) 27 := ⟨HXA.out, HXZ.out, HX3.out⟩
      have HBq := Aside0.mk HBc1002.out.drew
      clear HXA HXZ HX3 HBc1002
      refine start_ (n := 6) (S := (fun w' => Row w' w.heap.size .u64 5 f 27 ∧ Row w' (w.heap.size + 1) .u64 5 (fun _ => 0) 27 ∧ Row w' n3 .u64 5 (x1E f n) 27)) (ds := []) #[false, false, false, false, false, false] (by kernel_rfl) rfl rfl hh (fun hHeld => ?_); refine with_tabW tab3204 bits3204 (fun HT_ HW_ => ?_)
      generalize wc1002.drew = wq at HBq hHeld hh ⊢
      clear hh
      refine take_ (i := 0) (N := some 19) (v := ?_) (a' := ?_) #[true, false, false, false, false, false] rfl rfl (take_ofW HT_.out HW_.out (by kernel_rfl)) (fun _ _ _ h => h) (Or.inl ⟨by rfl, ?_⟩) hHeld ?_ ?_
      rotate_left
      · intro w' hsw
        refine exec_load (x := .tmp 4) hsw.2.2 Try.underlying27 info27 rfl ?_ ?_ <;> rfl
      rotate_left
      · simp only [Act.put, List.setIfInBounds_toArray, List.set_cons_zero, List.set_cons_succ, i64_w, i32_w]
        rfl
      refine take_ (i := 1) (N := some 20) (v := ?_) (a' := ?_) #[true, true, false, false, false, false] rfl rfl (take_ofW HT_.out HW_.out (by kernel_rfl)) (fun _ _ _ h => h) (Or.inl ⟨by rfl, ?_⟩) hHeld ?_ ?_
      rotate_left
      · intro w' hsw
        refine exec_load (x := .tmp 4) hsw.2.2 Try.underlying27 info27 rfl ?_ ?_ <;> rfl
      rotate_left
      · simp only [Act.put, List.setIfInBounds_toArray, List.set_cons_zero, List.set_cons_succ, i64_w, i32_w]
        rfl
      refine take_ (i := 3) (N := some 22) (v := ?_) (a' := ?_) #[true, true, false, true, false, false] rfl rfl (take_ofW HT_.out HW_.out (by kernel_rfl)) (fun _ _ _ h => h) (Or.inl ⟨by rfl, ?_⟩) hHeld ?_ ?_
      rotate_left
      · intro w' hsw
        refine exec_load (x := .tmp 1) hsw.1 Try.underlying27 info27 rfl ?_ ?_ <;> rfl
      rotate_left
      · simp only [Act.put, List.setIfInBounds_toArray, List.set_cons_zero, List.set_cons_succ, i64_w, i32_w]
        rfl
      refine one_ (i := 2) (N := some 21) #[true, true, true, true, false, false] rfl rfl (one_of HT_.out (by kernel_rfl)) (by decide) (fun K hK => ?_)
      refine goes_ Try.func26 rfl rfl #[.agg (FR .u64 5 (x1E f n)), .agg (FR .u64 5 (x1E f n))] rfl rfl rfl (by simp only [List.map_toArray, List.map_cons, List.map_nil]; rfl) ((elem_mul_calls _ _ _ (x1E_Fe HF.out).1 (x1E_Fe HF.out).1).mono ?_)
      rintro e wc1421 ⟨rfl, hb⟩
      have hSn : Row wc1421 w.heap.size .u64 5 f 27 ∧ Row wc1421 (w.heap.size + 1) .u64 5 (fun _ => 0) 27 ∧ Row wc1421 n3 .u64 5 (x1E f n) 27 := ⟨hHeld.1.below hb hHeld.1.lt, hHeld.2.1.below hb hHeld.2.1.lt, hHeld.2.2.below hb hHeld.2.2.lt⟩
      have HBc1421 := Aside0.mk (HBq.out.trans (hb.mono HBq.out.size))
      clear hb
      refine ⟨_, rfl, hK.out _ _ hSn (fun hHeld => ?_)⟩
      clear hSn
      clear hK K
      refine norm_ (a' := ?_) ?_ ?_
      rotate_left
      · show Act.put _ (some 21) _ = _
        simp only [Act.put, List.setIfInBounds_toArray, List.set_cons_zero, List.set_cons_succ, i64_w, i32_w]
        rfl
      refine one_ (i := 4) (N := some 23) #[true, true, true, true, true, false] rfl rfl (one_of HT_.out (by kernel_rfl)) (by decide) (fun K hK => ?_)
      refine goes_ Try.func17 rfl rfl #[.agg (FR .u64 5 (mulE (x1E f n) (x1E f n))), .agg (FR .u64 5 (f))] rfl rfl rfl (by simp only [List.map_toArray, List.map_cons, List.map_nil]; rfl) ((is_bool2 ((x1E_Fe HF.out).mul (x1E_Fe HF.out)) HF.out true HBV.out _).mono ?_)
      rintro e wc1422 ⟨rfl, hb⟩
      have hSn : Row wc1422 w.heap.size .u64 5 f 27 ∧ Row wc1422 (w.heap.size + 1) .u64 5 (fun _ => 0) 27 ∧ Row wc1422 n3 .u64 5 (x1E f n) 27 := ⟨hHeld.1.below hb hHeld.1.lt, hHeld.2.1.below hb hHeld.2.1.lt, hHeld.2.2.below hb hHeld.2.2.lt⟩
      have HBc1422 := Aside0.mk (HBc1421.out.trans (hb.mono HBc1421.out.size))
      clear hb
      refine ⟨_, rfl, hK.out _ _ hSn (fun hHeld => ?_)⟩
      clear hSn
      clear hK K
      refine norm_ (a' := ?_) ?_ ?_
      rotate_left
      · show Act.put _ (some 23) _ = _
        simp only [Act.put, List.setIfInBounds_toArray, List.set_cons_zero, List.set_cons_succ, i64_w, i32_w]
        rfl
      refine pure_ (i := 5) (N := some 24) (v := ?_) (a' := ?_) #[true, true, true, true, true, true] rfl rfl (any_of HT_.out (by kernel_rfl)) (fun _ _ _ h => h) (Or.inl ⟨by rfl, ?_⟩) ?_ ?_
      rotate_left
      · intro w'
        go_simp
        with_reducible rfl
      rotate_left
      · simp only [Act.put, List.setIfInBounds_toArray, List.set_cons_zero, List.set_cons_succ, i64_w, i32_w]
        rfl
      refine done_ (done_of HT_.out (by kernel_rfl)) ?_
      have HXA := Aside0.mk hHeld.1
      have HXZ := Aside0.mk hHeld.2.1
      have HX3 := Aside0.mk hHeld.2.2
      have hl3 := HX3.out.lt
      clear hHeld HT_ HW_ HBV
      go_wp2_with (refine step_load HX3.out Try.underlying27 info27 rfl rfl rfl rfl ?_)
      cases hod : rOdd iZ n
      · refine (odd_bool (x1E_Fe HF.out) false hod _).mono ?_
        rintro e wo ⟨rfl, hb⟩
        have HXZ2 := Aside0.mk (HXZ.out.below hb HXZ.out.lt)
        have HX32 := Aside0.mk (HX3.out.below hb HX3.out.lt)
        have HBo := Aside0.mk (HBc1422.out.trans (hb.mono HBc1422.out.size))
        have HOD := Aside0.mk hod
        have hlz2 := HXZ2.out.lt
        clear hb hod
        go_wp2_with (first | refine step_load HX32.out Try.underlying27 info27 rfl rfl rfl rfl ?_ | (refine step_storeG (x1E f n) HXZ2.out info27 rfl rfl rfl rfl rfl ?_; intro wz hs hr; have HSz := Aside0.mk hs; have HRz := Aside0.mk hr; clear hs hr))
        refine bodyPost_ret (row_results2 rfl HRz.out rfl Try.underlying27 rfl info27) rfl ?_
        refine ⟨?_, HSz.out.bel _ _ (by omega) HBo.out⟩
        rw [rtE_n HB1.out HOD.out, HB1.out]
        rfl
      · refine (odd_bool (x1E_Fe HF.out) true hod _).mono ?_
        rintro e wo ⟨rfl, hb⟩
        have HXZ2 := Aside0.mk (HXZ.out.below hb HXZ.out.lt)
        have HX32 := Aside0.mk (HX3.out.below hb HX3.out.lt)
        have HBo := Aside0.mk (HBc1422.out.trans (hb.mono HBc1422.out.size))
        have HOD := Aside0.mk hod
        have hlz2 := HXZ2.out.lt
        clear hb hod
        go_wp2_with (refine step_load HX32.out Try.underlying27 info27 rfl rfl rfl rfl ?_)
        refine (negE_c _ _ (x1E_Fe HF.out).1).mono ?_
        rintro e wn ⟨rfl, hb⟩
        have HXZ3 := Aside0.mk (HXZ2.out.below hb HXZ2.out.lt)
        have HX33 := Aside0.mk (HX32.out.below hb HX32.out.lt)
        have HBn := Aside0.mk (HBo.out.trans (hb.mono HBo.out.size))
        clear hb
        go_wp2_with (first | (refine step_storeG (negE (x1E f n)) HX33.out info27 rfl rfl rfl rfl rfl ?_; intro wy hs hr; have HBy := Aside0.mk (hs.bel _ _ (show w.heap.size ≤ n3 by omega) HBn.out); have HX34 := Aside0.mk hr; have HXZ4 := Aside0.mk (HXZ3.out.stored hs (by omega)); clear hs hr) | refine step_load HX34.out Try.underlying27 info27 rfl rfl rfl rfl ?_ | (refine step_storeG (negE (x1E f n)) HXZ4.out info27 rfl rfl rfl rfl rfl ?_; intro wz hs hr; have HSz := Aside0.mk hs; have HRz := Aside0.mk hr; clear hs hr))
        refine bodyPost_ret (row_results2 rfl HRz.out rfl Try.underlying27 rfl info27) rfl ?_
        refine ⟨?_, HSz.out.bel _ _ (by omega) HBy.out⟩
        rw [rtE_y HB1.out HOD.out, HB1.out]
        rfl
theorem tab3301 : rtab .any (opsOf Try.f33 1) = (true, [([], []), ([], []), ([0, 1, 1], [0, 1]), ([], []), ([3, 2, 2, 0, 1, 2, 3], [2, 3])]) := by kernel_rfl
theorem bits3301 : waitsOk [([], []), ([], []), ([0, 1, 1], [0, 1]), ([], []), ([3, 2, 2, 0, 1, 2, 3], [2, 3])] [0, 0, 3, 0, 15] = true := by kernel_rfl
theorem tab3302 : rtab .any (opsOf Try.f33 2) = (true, [([], []), ([], []), ([1], []), ([1, 2, 2], [1, 2]), ([0, 3, 3], [0, 3]), ([], []), ([5, 4, 4, 0, 1, 2, 3, 4, 5], [4, 5])]) := by kernel_rfl
theorem bits3302 : waitsOk [([], []), ([], []), ([1], []), ([1, 2, 2], [1, 2]), ([0, 3, 3], [0, 3]), ([], []), ([5, 4, 4, 0, 1, 2, 3, 4, 5], [4, 5])] [0, 0, 2, 6, 15, 0, 63] = true := by kernel_rfl
theorem tab3303 : rtab .any (opsOf Try.f33 3) = (true, [([], []), ([], []), ([0, 1], [0, 1]), ([], []), ([2, 3, 2], [2, 3]), ([4], [4])]) := by kernel_rfl
theorem bits3303 : waitsOk [([], []), ([], []), ([0, 1], [0, 1]), ([], []), ([2, 3, 2], [2, 3]), ([4], [4])] [0, 0, 3, 0, 15, 31] = true := by kernel_rfl
theorem tab3305 : rtab .any (opsOf Try.f33 5) = (true, [([], []), ([], []), ([0, 1], [0, 1]), ([], []), ([2, 3, 2], [2, 3]), ([4], [4])]) := by kernel_rfl
theorem bits3305 : waitsOk [([], []), ([], []), ([0, 1], [0, 1]), ([], []), ([2, 3, 2], [2, 3]), ([4], [4])] [0, 0, 3, 0, 15, 31] = true := by kernel_rfl
set_option maxHeartbeats 4000000 in
theorem rootR_calls (f : Nat → Int) (n : Int) (w : World) (hf : Re f n) :
    Calls Try.prog 33 #[.agg (FR .i64 16 f)] w fun e w' => e = .returned (.tuple #[.agg (FR .i64 16 (rtR f n)), .bool (rOk iZ n)]) ∧ Below w.heap.size w w' := by
  have HF := Aside0.mk hf
  clear hf
  go_enter Try.func33, Try.ntmps33
  go_wp2_with fail
  have hh : Row (((w.alloc (.cells (FR .i64 16 f) 33)).alloc (.cells #[.int .i64 0, .int .i64 0, .int .i64 0, .int .i64 0, .int .i64 0, .int .i64 0, .int .i64 0, .int .i64 0, .int .i64 0, .int .i64 0, .int .i64 0, .int .i64 0, .int .i64 0, .int .i64 0, .int .i64 0, .int .i64 0] 33)).drew) w.heap.size .i64 16 f 33 ∧ Row (((w.alloc (.cells (FR .i64 16 f) 33)).alloc (.cells #[.int .i64 0, .int .i64 0, .int .i64 0, .int .i64 0, .int .i64 0, .int .i64 0, .int .i64 0, .int .i64 0, .int .i64 0, .int .i64 0, .int .i64 0, .int .i64 0, .int .i64 0, .int .i64 0, .int .i64 0, .int .i64 0] 33)).drew) (w.heap.size + 1) .i64 16 (fun _ => 0) 33 := ⟨(Row.new w .i64 16 f 33).alloc _, heap_alloc2_new w _ _⟩
  have HBd := Aside0.mk ((bel_two w (.cells (FR .i64 16 f) 33) (.cells #[.int .i64 0, .int .i64 0, .int .i64 0, .int .i64 0, .int .i64 0, .int .i64 0, .int .i64 0, .int .i64 0, .int .i64 0, .int .i64 0, .int .i64 0, .int .i64 0, .int .i64 0, .int .i64 0, .int .i64 0, .int .i64 0] 33)).drew)
  refine start_ (n := 5) (S := (fun w' => Row w' w.heap.size .i64 16 f 33 ∧ Row w' (w.heap.size + 1) .i64 16 (fun _ => 0) 33)) (ds := []) #[false, false, false, false, false] (by kernel_rfl) rfl rfl hh (fun hHeld => ?_); refine with_tabW tab3301 bits3301 (fun HT_ HW_ => ?_)
  generalize ((w.alloc (.cells (FR .i64 16 f) 33)).alloc (.cells #[.int .i64 0, .int .i64 0, .int .i64 0, .int .i64 0, .int .i64 0, .int .i64 0, .int .i64 0, .int .i64 0, .int .i64 0, .int .i64 0, .int .i64 0, .int .i64 0, .int .i64 0, .int .i64 0, .int .i64 0, .int .i64 0] 33)).drew = w6 at HBd hHeld hh ⊢
  clear hh
  refine take_ (i := 0) (N := some 6) (v := ?_) (a' := ?_) #[true, false, false, false, false] rfl rfl (take_ofW HT_.out HW_.out (by kernel_rfl)) (fun _ _ _ h => h) (Or.inl ⟨by rfl, ?_⟩) hHeld ?_ ?_
  rotate_left
  · intro w' hsw
    refine exec_load (x := .tmp 1) hsw.1 Try.underlying33 info33 rfl ?_ ?_ <;> rfl
  rotate_left
  · simp only [Act.put, List.setIfInBounds_toArray, List.set_cons_zero, List.set_cons_succ, i64_w, i32_w]
    rfl
  refine join_ (σ := Nat) 1 #[true, true, true, true, false] (fun s => [(7, .string (sOf (exB 252 2))), (8, .agg (FR .i64 16 (x0R f))), (4, .pointer (some ⟨s, 0, none⟩))]) (fun s w' => Row w' s .i64 16 (fun _ => 0) 33 ∧ Row w' w.heap.size .i64 16 f 33 ∧ Row w' (w.heap.size + 1) .i64 16 (fun _ => 0) 33 ∧ Below w.heap.size w w' ∧ (w.heap.size + 1) < s) ?_ ?_
  rotate_left
  ·intro hJ1_2_3
   refine join_ (σ := Unit) 2 #[true, true, true, false, false] (fun s => [(7, .string (sOf (exB 252 2))), (8, .agg (FR .i64 16 (x0R f)))]) (fun s w' => Row w' w.heap.size .i64 16 f 33 ∧ Row w' (w.heap.size + 1) .i64 16 (fun _ => 0) 33 ∧ Below w.heap.size w w') ?_ ?_
   rotate_left
   ·intro hJ1_2
    refine join_ (σ := Nat) 2 #[true, true, false, true, false] (fun s => [(7, .string (sOf (exB 252 2))), (4, .pointer (some ⟨s, 0, none⟩))]) (fun s w' => Row w' s .i64 16 (fun _ => 0) 33 ∧ Row w' w.heap.size .i64 16 f 33 ∧ Row w' (w.heap.size + 1) .i64 16 (fun _ => 0) 33 ∧ Below w.heap.size w w' ∧ (w.heap.size + 1) < s) ?_ ?_
    rotate_left
    ·intro hJ1_3
     refine join_ (σ := Unit) 3 #[true, true, false, false, false] (fun s => [(7, .string (sOf (exB 252 2)))]) (fun s w' => Row w' w.heap.size .i64 16 f 33 ∧ Row w' (w.heap.size + 1) .i64 16 (fun _ => 0) 33 ∧ Below w.heap.size w w') ?_ ?_
     rotate_left
     ·intro hJ1
      refine join_ (σ := Nat) 3 #[true, false, false, true, false] (fun s => [(4, .pointer (some ⟨s, 0, none⟩))]) (fun s w' => Row w' s .i64 16 (fun _ => 0) 33 ∧ Row w' w.heap.size .i64 16 f 33 ∧ Row w' (w.heap.size + 1) .i64 16 (fun _ => 0) 33 ∧ Below w.heap.size w w' ∧ (w.heap.size + 1) < s) ?_ ?_
      rotate_left
      ·intro hJ3
       refine two_ (i := 1) (j := 3) (Ni := some 7) (Nj := some 4) #[true, true, false, false, false] #[true, false, false, true, false] rfl rfl rfl rfl (by kernel_rfl) (by decide) (by decide) (fun K hK => ?_) (fun K hK => ?_)
       · skip
         refine goes_ Try.func43 rfl rfl #[.int .i64 252, .int .i64 2] rfl rfl rfl (by simp only [List.map_toArray, List.map_cons, List.map_nil]; rfl) ((Exponent_calls 252 2 _ (by omega) (by omega)).mono ?_)
         rintro e wf1 ⟨rfl, hb⟩
         have hSn : Row wf1 w.heap.size .i64 16 f 33 ∧ Row wf1 (w.heap.size + 1) .i64 16 (fun _ => 0) 33 := ⟨hHeld.1.below hb hHeld.1.lt, hHeld.2.below hb hHeld.2.lt⟩
         have HBf := Aside0.mk (HBd.out.trans (hb.mono HBd.out.size))
         clear hb
         refine ⟨_, rfl, hK.out _ _ hSn (fun hHeld => ?_)⟩
         clear hSn hK K
         refine norm_ (a' := ?_) ?_ ?_
         rotate_left
         · show Act.put _ (some 7) _ = _
           simp only [Act.put, List.setIfInBounds_toArray, List.set_cons_zero, List.set_cons_succ, i64_w, i32_w]
           rfl
         exact norm_ (by first | (simp only [putAll, Act.put, List.setIfInBounds_toArray, List.set_cons_zero, List.set_cons_succ]; done) | (simp only [putAll, Act.put, List.setIfInBounds_toArray, List.set_cons_zero, List.set_cons_succ]; rfl)) (hJ1 () _ ⟨hHeld.1, hHeld.2, HBf.out⟩)
       · skip
         refine event_step (by rfl) (v := .pointer (some ⟨w6.heap.size, 0, none⟩)) (w1 := w6.alloc (.cells (FR .i64 16 fun _ => 0) 33)) (by first | (go_simp; done) | (go_simp; rfl)) ?_
         have hSn : Row (w6.alloc (.cells (FR .i64 16 fun _ => 0) 33)) w.heap.size .i64 16 f 33 ∧ Row (w6.alloc (.cells (FR .i64 16 fun _ => 0) 33)) (w.heap.size + 1) .i64 16 (fun _ => 0) 33 := ⟨hHeld.1.alloc _, hHeld.2.alloc _⟩
         have HBf := Aside0.mk (HBd.out.alloc HBd.out.size (.cells (FR .i64 16 fun _ => 0) 33))
         have hlo3 : (w.heap.size + 1) < w6.heap.size := hHeld.2.lt
         have HR3 := Aside0.mk (Row.new w6 .i64 16 (fun _ => 0) 33)
         generalize w6.alloc (.cells (FR .i64 16 fun _ => 0) 33) = wf2 at hSn HBf HR3 ⊢
         refine hK.out _ _ hSn (fun hHeld => ?_)
         clear hSn hK K
         refine norm_ (a' := ?_) ?_ ?_
         rotate_left
         · show Act.put _ (some 4) _ = _
           simp only [Act.put, List.setIfInBounds_toArray, List.set_cons_zero, List.set_cons_succ, i64_w, i32_w]
           rfl
         exact norm_ (by first | (simp only [putAll, Act.put, List.setIfInBounds_toArray, List.set_cons_zero, List.set_cons_succ]; done) | (simp only [putAll, Act.put, List.setIfInBounds_toArray, List.set_cons_zero, List.set_cons_succ]; rfl)) (hJ3 w6.heap.size _ ⟨HR3.out, hHeld.1, hHeld.2, HBf.out, hlo3⟩)
      ·skip
       rintro n3 wg ⟨HX3, hq0, hq1, hbj, hlo3⟩
       have HX3 := Aside0.mk HX3
       have HBj := Aside0.mk hbj
       clear hbj
       have hHeld : Row wg w.heap.size .i64 16 f 33 ∧ Row wg (w.heap.size + 1) .i64 16 (fun _ => 0) 33 := ⟨hq0, hq1⟩
       clear hq0 hq1
       refine norm_ (a' := ?_) ?_ ?_
       rotate_left
       · simp only [putAll, Act.put, List.setIfInBounds_toArray, List.set_cons_zero, List.set_cons_succ]
         rfl
       refine one_ (i := 1) (N := some 7) #[true, true, false, true, false] rfl rfl (one_of HT_.out (by kernel_rfl)) (by decide) (fun K hK => ?_)
       refine goes_ Try.func43 rfl rfl #[.int .i64 252, .int .i64 2] rfl rfl rfl (by simp only [List.map_toArray, List.map_cons, List.map_nil]; rfl) ((Exponent_calls 252 2 _ (by omega) (by omega)).mono ?_)
       rintro e wf3 ⟨rfl, hb⟩
       have hSn : Row wf3 w.heap.size .i64 16 f 33 ∧ Row wf3 (w.heap.size + 1) .i64 16 (fun _ => 0) 33 := ⟨hHeld.1.below hb hHeld.1.lt, hHeld.2.below hb hHeld.2.lt⟩
       have HBf := Aside0.mk (HBj.out.trans (hb.mono HBj.out.size))
       have HR3 := Aside0.mk (HX3.out.below hb HX3.out.lt)
       clear hb
       refine ⟨_, rfl, hK.out _ _ hSn (fun hHeld => ?_)⟩
       clear hSn hK K
       refine norm_ (a' := ?_) ?_ ?_
       rotate_left
       · show Act.put _ (some 7) _ = _
         simp only [Act.put, List.setIfInBounds_toArray, List.set_cons_zero, List.set_cons_succ, i64_w, i32_w]
         rfl
       exact norm_ (by first | (simp only [putAll, Act.put, List.setIfInBounds_toArray, List.set_cons_zero, List.set_cons_succ]; done) | (simp only [putAll, Act.put, List.setIfInBounds_toArray, List.set_cons_zero, List.set_cons_succ]; rfl)) (hJ1_3 n3 _ ⟨HR3.out, hHeld.1, hHeld.2, HBf.out, hlo3⟩)
     ·skip
      rintro _ wg ⟨hq0, hq1, hbj⟩
      have HBj := Aside0.mk hbj
      clear hbj
      have hHeld : Row wg w.heap.size .i64 16 f 33 ∧ Row wg (w.heap.size + 1) .i64 16 (fun _ => 0) 33 := ⟨hq0, hq1⟩
      clear hq0 hq1
      refine norm_ (a' := ?_) ?_ ?_
      rotate_left
      · simp only [putAll, Act.put, List.setIfInBounds_toArray, List.set_cons_zero, List.set_cons_succ]
        rfl
      refine two_ (i := 2) (j := 3) (Ni := some 8) (Nj := some 4) #[true, true, true, false, false] #[true, true, false, true, false] rfl rfl rfl rfl (by kernel_rfl) (by decide) (by decide) (fun K hK => ?_) (fun K hK => ?_)
      · skip
        refine goes_ Try.func29 rfl rfl #[.agg (FR .i64 16 (f)), .string (sOf (exB 252 2))] rfl rfl rfl (by simp only [List.map_toArray, List.map_cons, List.map_nil]; rfl) ((pow_ref f (exB 252 2) _ HF.out.1 (exB_By _ _)).mono ?_)
        rintro e wf4 ⟨rfl, hb⟩
        have hSn : Row wf4 w.heap.size .i64 16 f 33 ∧ Row wf4 (w.heap.size + 1) .i64 16 (fun _ => 0) 33 := ⟨hHeld.1.below hb hHeld.1.lt, hHeld.2.below hb hHeld.2.lt⟩
        have HBf := Aside0.mk (HBj.out.trans (hb.mono HBj.out.size))
        clear hb
        refine ⟨_, rfl, hK.out _ _ hSn (fun hHeld => ?_)⟩
        clear hSn hK K
        refine norm_ (a' := ?_) ?_ ?_
        rotate_left
        · show Act.put _ (some 8) _ = _
          simp only [Act.put, List.setIfInBounds_toArray, List.set_cons_zero, List.set_cons_succ, i64_w, i32_w]
          rfl
        exact norm_ (by first | (simp only [putAll, Act.put, List.setIfInBounds_toArray, List.set_cons_zero, List.set_cons_succ]; done) | (simp only [putAll, Act.put, List.setIfInBounds_toArray, List.set_cons_zero, List.set_cons_succ]; rfl)) (hJ1_2 () _ ⟨hHeld.1, hHeld.2, HBf.out⟩)
      · skip
        refine event_step (by rfl) (v := .pointer (some ⟨wg.heap.size, 0, none⟩)) (w1 := wg.alloc (.cells (FR .i64 16 fun _ => 0) 33)) (by first | (go_simp; done) | (go_simp; rfl)) ?_
        have hSn : Row (wg.alloc (.cells (FR .i64 16 fun _ => 0) 33)) w.heap.size .i64 16 f 33 ∧ Row (wg.alloc (.cells (FR .i64 16 fun _ => 0) 33)) (w.heap.size + 1) .i64 16 (fun _ => 0) 33 := ⟨hHeld.1.alloc _, hHeld.2.alloc _⟩
        have HBf := Aside0.mk (HBj.out.alloc HBj.out.size (.cells (FR .i64 16 fun _ => 0) 33))
        have hlo3 : (w.heap.size + 1) < wg.heap.size := hHeld.2.lt
        have HR3 := Aside0.mk (Row.new wg .i64 16 (fun _ => 0) 33)
        generalize wg.alloc (.cells (FR .i64 16 fun _ => 0) 33) = wf5 at hSn HBf HR3 ⊢
        refine hK.out _ _ hSn (fun hHeld => ?_)
        clear hSn hK K
        refine norm_ (a' := ?_) ?_ ?_
        rotate_left
        · show Act.put _ (some 4) _ = _
          simp only [Act.put, List.setIfInBounds_toArray, List.set_cons_zero, List.set_cons_succ, i64_w, i32_w]
          rfl
        exact norm_ (by first | (simp only [putAll, Act.put, List.setIfInBounds_toArray, List.set_cons_zero, List.set_cons_succ]; done) | (simp only [putAll, Act.put, List.setIfInBounds_toArray, List.set_cons_zero, List.set_cons_succ]; rfl)) (hJ1_3 wg.heap.size _ ⟨HR3.out, hHeld.1, hHeld.2, HBf.out, hlo3⟩)
    ·skip
     rintro n3 wg ⟨HX3, hq0, hq1, hbj, hlo3⟩
     have HX3 := Aside0.mk HX3
     have HBj := Aside0.mk hbj
     clear hbj
     have hHeld : Row wg w.heap.size .i64 16 f 33 ∧ Row wg (w.heap.size + 1) .i64 16 (fun _ => 0) 33 := ⟨hq0, hq1⟩
     clear hq0 hq1
     refine norm_ (a' := ?_) ?_ ?_
     rotate_left
     · simp only [putAll, Act.put, List.setIfInBounds_toArray, List.set_cons_zero, List.set_cons_succ]
       rfl
     refine one_ (i := 2) (N := some 8) #[true, true, true, true, false] rfl rfl (one_of HT_.out (by kernel_rfl)) (by decide) (fun K hK => ?_)
     refine goes_ Try.func29 rfl rfl #[.agg (FR .i64 16 (f)), .string (sOf (exB 252 2))] rfl rfl rfl (by simp only [List.map_toArray, List.map_cons, List.map_nil]; rfl) ((pow_ref f (exB 252 2) _ HF.out.1 (exB_By _ _)).mono ?_)
     rintro e wf6 ⟨rfl, hb⟩
     have hSn : Row wf6 w.heap.size .i64 16 f 33 ∧ Row wf6 (w.heap.size + 1) .i64 16 (fun _ => 0) 33 := ⟨hHeld.1.below hb hHeld.1.lt, hHeld.2.below hb hHeld.2.lt⟩
     have HBf := Aside0.mk (HBj.out.trans (hb.mono HBj.out.size))
     have HR3 := Aside0.mk (HX3.out.below hb HX3.out.lt)
     clear hb
     refine ⟨_, rfl, hK.out _ _ hSn (fun hHeld => ?_)⟩
     clear hSn hK K
     refine norm_ (a' := ?_) ?_ ?_
     rotate_left
     · show Act.put _ (some 8) _ = _
       simp only [Act.put, List.setIfInBounds_toArray, List.set_cons_zero, List.set_cons_succ, i64_w, i32_w]
       rfl
     exact norm_ (by first | (simp only [putAll, Act.put, List.setIfInBounds_toArray, List.set_cons_zero, List.set_cons_succ]; done) | (simp only [putAll, Act.put, List.setIfInBounds_toArray, List.set_cons_zero, List.set_cons_succ]; rfl)) (hJ1_2_3 n3 _ ⟨HR3.out, hHeld.1, hHeld.2, HBf.out, hlo3⟩)
   ·skip
    rintro _ wg ⟨hq0, hq1, hbj⟩
    have HBj := Aside0.mk hbj
    clear hbj
    have hHeld : Row wg w.heap.size .i64 16 f 33 ∧ Row wg (w.heap.size + 1) .i64 16 (fun _ => 0) 33 := ⟨hq0, hq1⟩
    clear hq0 hq1
    refine norm_ (a' := ?_) ?_ ?_
    rotate_left
    · simp only [putAll, Act.put, List.setIfInBounds_toArray, List.set_cons_zero, List.set_cons_succ]
      rfl
    refine one_ (i := 3) (N := some 4) #[true, true, true, true, false] rfl rfl (one_of HT_.out (by kernel_rfl)) (by decide) (fun K hK => ?_)
    refine event_step (by rfl) (v := .pointer (some ⟨wg.heap.size, 0, none⟩)) (w1 := wg.alloc (.cells (FR .i64 16 fun _ => 0) 33)) (by first | (go_simp; done) | (go_simp; rfl)) ?_
    have hSn : Row (wg.alloc (.cells (FR .i64 16 fun _ => 0) 33)) w.heap.size .i64 16 f 33 ∧ Row (wg.alloc (.cells (FR .i64 16 fun _ => 0) 33)) (w.heap.size + 1) .i64 16 (fun _ => 0) 33 := ⟨hHeld.1.alloc _, hHeld.2.alloc _⟩
    have HBf := Aside0.mk (HBj.out.alloc HBj.out.size (.cells (FR .i64 16 fun _ => 0) 33))
    have hlo3 : (w.heap.size + 1) < wg.heap.size := hHeld.2.lt
    have HR3 := Aside0.mk (Row.new wg .i64 16 (fun _ => 0) 33)
    generalize wg.alloc (.cells (FR .i64 16 fun _ => 0) 33) = wf7 at hSn HBf HR3 ⊢
    refine hK.out _ _ hSn (fun hHeld => ?_)
    clear hSn hK K
    refine norm_ (a' := ?_) ?_ ?_
    rotate_left
    · show Act.put _ (some 4) _ = _
      simp only [Act.put, List.setIfInBounds_toArray, List.set_cons_zero, List.set_cons_succ, i64_w, i32_w]
      rfl
    exact norm_ (by first | (simp only [putAll, Act.put, List.setIfInBounds_toArray, List.set_cons_zero, List.set_cons_succ]; done) | (simp only [putAll, Act.put, List.setIfInBounds_toArray, List.set_cons_zero, List.set_cons_succ]; rfl)) (hJ1_2_3 wg.heap.size _ ⟨HR3.out, hHeld.1, hHeld.2, HBf.out, hlo3⟩)
  rintro n3 wj ⟨HX3, hq0, hq1, hbj, hlo3⟩
  have HX3 := Aside0.mk HX3
  have HBj := Aside0.mk hbj
  clear hbj
  have hHeld : Row wj w.heap.size .i64 16 f 33 ∧ Row wj (w.heap.size + 1) .i64 16 (fun _ => 0) 33 := ⟨hq0, hq1⟩
  clear hq0 hq1
  refine norm_ (a' := ?_) ?_ ?_
  rotate_left
  · simp only [putAll, Act.put, List.setIfInBounds_toArray, List.set_cons_zero, List.set_cons_succ]
    rfl
  refine one_ (i := 4) (N := none) #[true, true, true, true, true] rfl rfl (one_of HT_.out (by kernel_rfl)) (by decide) (fun K hK => ?_)
  refine oper_storeG (x0R f) HX3.out info33 rfl rfl rfl rfl rfl ?_
  intro ws8 hs hr
  have hSn : Row ws8 w.heap.size .i64 16 f 33 ∧ Row ws8 (w.heap.size + 1) .i64 16 (fun _ => 0) 33 := ⟨hHeld.1.stored hs (by omega), hHeld.2.stored hs (by omega)⟩
  have HX3 := Aside0.mk hr
  have HBs8 := Aside0.mk (hs.bel _ _ (by omega) HBj.out)
  clear hs hr
  refine hK.out _ _ hSn (fun hHeld => ?_)
  clear hSn hK K
  refine done_ (done_of HT_.out (by kernel_rfl)) ?_
  have hl0 := hHeld.1.lt
  have hl1 := hHeld.2.lt
  have HXA := Aside0.mk hHeld.1
  have HXZ := Aside0.mk hHeld.2
  clear hHeld HT_ HW_
  try go_wp2
  have hh : Row ws8.drew w.heap.size .i64 16 f 33 ∧ Row ws8.drew (w.heap.size + 1) .i64 16 (fun _ => 0) 33 ∧ Row ws8.drew n3 .i64 16 (x0R f) 33 := ⟨HXA.out, HXZ.out, HX3.out⟩
  have HBr := Aside0.mk HBs8.out.drew
  clear HXA HXZ HX3 HBs8
  refine start_ (n := 7) (S := (fun w' => Row w' w.heap.size .i64 16 f 33 ∧ Row w' (w.heap.size + 1) .i64 16 (fun _ => 0) 33 ∧ Row w' n3 .i64 16 (x0R f) 33)) (ds := []) #[false, false, false, false, false, false, false] (by kernel_rfl) rfl rfl hh (fun hHeld => ?_); refine with_tabW tab3302 bits3302 (fun HT_ HW_ => ?_)
  generalize ws8.drew = w7 at HBr hHeld hh ⊢
  clear hh
  refine take_ (i := 0) (N := some 9) (v := ?_) (a' := ?_) #[true, false, false, false, false, false, false] rfl rfl (take_ofW HT_.out HW_.out (by kernel_rfl)) (fun _ _ _ h => h) (Or.inl ⟨by rfl, ?_⟩) hHeld ?_ ?_
  rotate_left
  · intro w' hsw
    refine exec_load (x := .tmp 4) hsw.2.2 Try.underlying33 info33 rfl ?_ ?_ <;> rfl
  rotate_left
  · simp only [Act.put, List.setIfInBounds_toArray, List.set_cons_zero, List.set_cons_succ, i64_w, i32_w]
    rfl
  refine join_ (σ := Nat) 1 #[true, true, true, true, true, true, false] (fun s => [(10, .agg (FR .i64 16 (carryN (fun i => if i = 0 then 2 else 0) 16))), (11, .string (sOf (exB 253 5))), (12, .agg (FR .i64 16 (iR))), (13, .agg (FR .i64 16 (mulR (x0R f) iR))), (5, .pointer (some ⟨s, 0, none⟩))]) (fun s w' => Row w' s .i64 16 (fun _ => 0) 33 ∧ Row w' w.heap.size .i64 16 f 33 ∧ Row w' (w.heap.size + 1) .i64 16 (fun _ => 0) 33 ∧ Row w' n3 .i64 16 (x0R f) 33 ∧ Below w.heap.size w w' ∧ n3 < s) ?_ ?_
  rotate_left
  ·intro hJ1_2_3_4_5
   refine join_ (σ := Unit) 2 #[true, true, true, true, true, false, false] (fun s => [(10, .agg (FR .i64 16 (carryN (fun i => if i = 0 then 2 else 0) 16))), (11, .string (sOf (exB 253 5))), (12, .agg (FR .i64 16 (iR))), (13, .agg (FR .i64 16 (mulR (x0R f) iR)))]) (fun s w' => Row w' w.heap.size .i64 16 f 33 ∧ Row w' (w.heap.size + 1) .i64 16 (fun _ => 0) 33 ∧ Row w' n3 .i64 16 (x0R f) 33 ∧ Below w.heap.size w w') ?_ ?_
   rotate_left
   ·intro hJ1_2_3_4
    refine join_ (σ := Nat) 2 #[true, true, true, true, false, true, false] (fun s => [(10, .agg (FR .i64 16 (carryN (fun i => if i = 0 then 2 else 0) 16))), (11, .string (sOf (exB 253 5))), (12, .agg (FR .i64 16 (iR))), (5, .pointer (some ⟨s, 0, none⟩))]) (fun s w' => Row w' s .i64 16 (fun _ => 0) 33 ∧ Row w' w.heap.size .i64 16 f 33 ∧ Row w' (w.heap.size + 1) .i64 16 (fun _ => 0) 33 ∧ Row w' n3 .i64 16 (x0R f) 33 ∧ Below w.heap.size w w' ∧ n3 < s) ?_ ?_
    rotate_left
    ·intro hJ1_2_3_5
     refine join_ (σ := Unit) 3 #[true, true, true, true, false, false, false] (fun s => [(10, .agg (FR .i64 16 (carryN (fun i => if i = 0 then 2 else 0) 16))), (11, .string (sOf (exB 253 5))), (12, .agg (FR .i64 16 (iR)))]) (fun s w' => Row w' w.heap.size .i64 16 f 33 ∧ Row w' (w.heap.size + 1) .i64 16 (fun _ => 0) 33 ∧ Row w' n3 .i64 16 (x0R f) 33 ∧ Below w.heap.size w w') ?_ ?_
     rotate_left
     ·intro hJ1_2_3
      refine join_ (σ := Nat) 3 #[true, true, true, false, false, true, false] (fun s => [(10, .agg (FR .i64 16 (carryN (fun i => if i = 0 then 2 else 0) 16))), (11, .string (sOf (exB 253 5))), (5, .pointer (some ⟨s, 0, none⟩))]) (fun s w' => Row w' s .i64 16 (fun _ => 0) 33 ∧ Row w' w.heap.size .i64 16 f 33 ∧ Row w' (w.heap.size + 1) .i64 16 (fun _ => 0) 33 ∧ Row w' n3 .i64 16 (x0R f) 33 ∧ Below w.heap.size w w' ∧ n3 < s) ?_ ?_
      rotate_left
      ·intro hJ1_2_5
       refine join_ (σ := Unit) 4 #[true, true, true, false, false, false, false] (fun s => [(10, .agg (FR .i64 16 (carryN (fun i => if i = 0 then 2 else 0) 16))), (11, .string (sOf (exB 253 5)))]) (fun s w' => Row w' w.heap.size .i64 16 f 33 ∧ Row w' (w.heap.size + 1) .i64 16 (fun _ => 0) 33 ∧ Row w' n3 .i64 16 (x0R f) 33 ∧ Below w.heap.size w w') ?_ ?_
       rotate_left
       ·intro hJ1_2
        refine join_ (σ := Nat) 4 #[true, true, false, false, false, true, false] (fun s => [(10, .agg (FR .i64 16 (carryN (fun i => if i = 0 then 2 else 0) 16))), (5, .pointer (some ⟨s, 0, none⟩))]) (fun s w' => Row w' s .i64 16 (fun _ => 0) 33 ∧ Row w' w.heap.size .i64 16 f 33 ∧ Row w' (w.heap.size + 1) .i64 16 (fun _ => 0) 33 ∧ Row w' n3 .i64 16 (x0R f) 33 ∧ Below w.heap.size w w' ∧ n3 < s) ?_ ?_
        rotate_left
        ·intro hJ1_5
         refine join_ (σ := Unit) 5 #[true, true, false, false, false, false, false] (fun s => [(10, .agg (FR .i64 16 (carryN (fun i => if i = 0 then 2 else 0) 16)))]) (fun s w' => Row w' w.heap.size .i64 16 f 33 ∧ Row w' (w.heap.size + 1) .i64 16 (fun _ => 0) 33 ∧ Row w' n3 .i64 16 (x0R f) 33 ∧ Below w.heap.size w w') ?_ ?_
         rotate_left
         ·intro hJ1
          refine join_ (σ := Nat) 5 #[true, false, false, false, false, true, false] (fun s => [(5, .pointer (some ⟨s, 0, none⟩))]) (fun s w' => Row w' s .i64 16 (fun _ => 0) 33 ∧ Row w' w.heap.size .i64 16 f 33 ∧ Row w' (w.heap.size + 1) .i64 16 (fun _ => 0) 33 ∧ Row w' n3 .i64 16 (x0R f) 33 ∧ Below w.heap.size w w' ∧ n3 < s) ?_ ?_
          rotate_left
          ·intro hJ5
           refine two_ (i := 1) (j := 5) (Ni := some 10) (Nj := some 5) #[true, true, false, false, false, false, false] #[true, false, false, false, false, true, false] rfl rfl rfl rfl (by kernel_rfl) (by decide) (by decide) (fun K hK => ?_) (fun K hK => ?_)
           · skip
             refine goes_ Try.func16 rfl rfl #[.int .i64 2] rfl rfl rfl (by simp only [List.map_toArray, List.map_cons, List.map_nil]; rfl) ((small_ref_calls 2 _ (by omega)).mono ?_)
             rintro e wf501 ⟨rfl, hb⟩
             have hSn : Row wf501 w.heap.size .i64 16 f 33 ∧ Row wf501 (w.heap.size + 1) .i64 16 (fun _ => 0) 33 ∧ Row wf501 n3 .i64 16 (x0R f) 33 := ⟨hHeld.1.below hb hHeld.1.lt, hHeld.2.1.below hb hHeld.2.1.lt, hHeld.2.2.below hb hHeld.2.2.lt⟩
             have HBf := Aside0.mk (HBr.out.trans (hb.mono HBr.out.size))
             clear hb
             refine ⟨_, rfl, hK.out _ _ hSn (fun hHeld => ?_)⟩
             clear hSn hK K
             refine norm_ (a' := ?_) ?_ ?_
             rotate_left
             · show Act.put _ (some 10) _ = _
               simp only [Act.put, List.setIfInBounds_toArray, List.set_cons_zero, List.set_cons_succ, i64_w, i32_w]
               rfl
             exact norm_ (by first | (simp only [putAll, Act.put, List.setIfInBounds_toArray, List.set_cons_zero, List.set_cons_succ]; done) | (simp only [putAll, Act.put, List.setIfInBounds_toArray, List.set_cons_zero, List.set_cons_succ]; rfl)) (hJ1 () _ ⟨hHeld.1, hHeld.2.1, hHeld.2.2, HBf.out⟩)
           · skip
             refine event_step (by rfl) (v := .pointer (some ⟨w7.heap.size, 0, none⟩)) (w1 := w7.alloc (.cells (FR .i64 16 fun _ => 0) 33)) (by first | (go_simp; done) | (go_simp; rfl)) ?_
             have hSn : Row (w7.alloc (.cells (FR .i64 16 fun _ => 0) 33)) w.heap.size .i64 16 f 33 ∧ Row (w7.alloc (.cells (FR .i64 16 fun _ => 0) 33)) (w.heap.size + 1) .i64 16 (fun _ => 0) 33 ∧ Row (w7.alloc (.cells (FR .i64 16 fun _ => 0) 33)) n3 .i64 16 (x0R f) 33 := ⟨hHeld.1.alloc _, hHeld.2.1.alloc _, hHeld.2.2.alloc _⟩
             have HBf := Aside0.mk (HBr.out.alloc HBr.out.size (.cells (FR .i64 16 fun _ => 0) 33))
             have hlo5 : n3 < w7.heap.size := hHeld.2.2.lt
             have HR5 := Aside0.mk (Row.new w7 .i64 16 (fun _ => 0) 33)
             generalize w7.alloc (.cells (FR .i64 16 fun _ => 0) 33) = wf502 at hSn HBf HR5 ⊢
             refine hK.out _ _ hSn (fun hHeld => ?_)
             clear hSn hK K
             refine norm_ (a' := ?_) ?_ ?_
             rotate_left
             · show Act.put _ (some 5) _ = _
               simp only [Act.put, List.setIfInBounds_toArray, List.set_cons_zero, List.set_cons_succ, i64_w, i32_w]
               rfl
             exact norm_ (by first | (simp only [putAll, Act.put, List.setIfInBounds_toArray, List.set_cons_zero, List.set_cons_succ]; done) | (simp only [putAll, Act.put, List.setIfInBounds_toArray, List.set_cons_zero, List.set_cons_succ]; rfl)) (hJ5 w7.heap.size _ ⟨HR5.out, hHeld.1, hHeld.2.1, hHeld.2.2, HBf.out, hlo5⟩)
          ·skip
           rintro n5 wg ⟨HX5, hq0, hq1, hq2, hbj, hlo5⟩
           have HX5 := Aside0.mk HX5
           have HBj := Aside0.mk hbj
           clear hbj
           have hHeld : Row wg w.heap.size .i64 16 f 33 ∧ Row wg (w.heap.size + 1) .i64 16 (fun _ => 0) 33 ∧ Row wg n3 .i64 16 (x0R f) 33 := ⟨hq0, hq1, hq2⟩
           clear hq0 hq1 hq2
           refine norm_ (a' := ?_) ?_ ?_
           rotate_left
           · simp only [putAll, Act.put, List.setIfInBounds_toArray, List.set_cons_zero, List.set_cons_succ]
             rfl
           refine one_ (i := 1) (N := some 10) #[true, true, false, false, false, true, false] rfl rfl (one_of HT_.out (by kernel_rfl)) (by decide) (fun K hK => ?_)
           refine goes_ Try.func16 rfl rfl #[.int .i64 2] rfl rfl rfl (by simp only [List.map_toArray, List.map_cons, List.map_nil]; rfl) ((small_ref_calls 2 _ (by omega)).mono ?_)
           rintro e wf503 ⟨rfl, hb⟩
           have hSn : Row wf503 w.heap.size .i64 16 f 33 ∧ Row wf503 (w.heap.size + 1) .i64 16 (fun _ => 0) 33 ∧ Row wf503 n3 .i64 16 (x0R f) 33 := ⟨hHeld.1.below hb hHeld.1.lt, hHeld.2.1.below hb hHeld.2.1.lt, hHeld.2.2.below hb hHeld.2.2.lt⟩
           have HBf := Aside0.mk (HBj.out.trans (hb.mono HBj.out.size))
           have HR5 := Aside0.mk (HX5.out.below hb HX5.out.lt)
           clear hb
           refine ⟨_, rfl, hK.out _ _ hSn (fun hHeld => ?_)⟩
           clear hSn hK K
           refine norm_ (a' := ?_) ?_ ?_
           rotate_left
           · show Act.put _ (some 10) _ = _
             simp only [Act.put, List.setIfInBounds_toArray, List.set_cons_zero, List.set_cons_succ, i64_w, i32_w]
             rfl
           exact norm_ (by first | (simp only [putAll, Act.put, List.setIfInBounds_toArray, List.set_cons_zero, List.set_cons_succ]; done) | (simp only [putAll, Act.put, List.setIfInBounds_toArray, List.set_cons_zero, List.set_cons_succ]; rfl)) (hJ1_5 n5 _ ⟨HR5.out, hHeld.1, hHeld.2.1, hHeld.2.2, HBf.out, hlo5⟩)
         ·skip
          rintro _ wg ⟨hq0, hq1, hq2, hbj⟩
          have HBj := Aside0.mk hbj
          clear hbj
          have hHeld : Row wg w.heap.size .i64 16 f 33 ∧ Row wg (w.heap.size + 1) .i64 16 (fun _ => 0) 33 ∧ Row wg n3 .i64 16 (x0R f) 33 := ⟨hq0, hq1, hq2⟩
          clear hq0 hq1 hq2
          refine norm_ (a' := ?_) ?_ ?_
          rotate_left
          · simp only [putAll, Act.put, List.setIfInBounds_toArray, List.set_cons_zero, List.set_cons_succ]
            rfl
          refine two_ (i := 2) (j := 5) (Ni := some 11) (Nj := some 5) #[true, true, true, false, false, false, false] #[true, true, false, false, false, true, false] rfl rfl rfl rfl (by kernel_rfl) (by decide) (by decide) (fun K hK => ?_) (fun K hK => ?_)
          · skip
            refine goes_ Try.func43 rfl rfl #[.int .i64 253, .int .i64 5] rfl rfl rfl (by simp only [List.map_toArray, List.map_cons, List.map_nil]; rfl) ((Exponent_calls 253 5 _ (by omega) (by omega)).mono ?_)
            rintro e wf504 ⟨rfl, hb⟩
            have hSn : Row wf504 w.heap.size .i64 16 f 33 ∧ Row wf504 (w.heap.size + 1) .i64 16 (fun _ => 0) 33 ∧ Row wf504 n3 .i64 16 (x0R f) 33 := ⟨hHeld.1.below hb hHeld.1.lt, hHeld.2.1.below hb hHeld.2.1.lt, hHeld.2.2.below hb hHeld.2.2.lt⟩
            have HBf := Aside0.mk (HBj.out.trans (hb.mono HBj.out.size))
            clear hb
            refine ⟨_, rfl, hK.out _ _ hSn (fun hHeld => ?_)⟩
            clear hSn hK K
            refine norm_ (a' := ?_) ?_ ?_
            rotate_left
            · show Act.put _ (some 11) _ = _
              simp only [Act.put, List.setIfInBounds_toArray, List.set_cons_zero, List.set_cons_succ, i64_w, i32_w]
              rfl
            exact norm_ (by first | (simp only [putAll, Act.put, List.setIfInBounds_toArray, List.set_cons_zero, List.set_cons_succ]; done) | (simp only [putAll, Act.put, List.setIfInBounds_toArray, List.set_cons_zero, List.set_cons_succ]; rfl)) (hJ1_2 () _ ⟨hHeld.1, hHeld.2.1, hHeld.2.2, HBf.out⟩)
          · skip
            refine event_step (by rfl) (v := .pointer (some ⟨wg.heap.size, 0, none⟩)) (w1 := wg.alloc (.cells (FR .i64 16 fun _ => 0) 33)) (by first | (go_simp; done) | (go_simp; rfl)) ?_
            have hSn : Row (wg.alloc (.cells (FR .i64 16 fun _ => 0) 33)) w.heap.size .i64 16 f 33 ∧ Row (wg.alloc (.cells (FR .i64 16 fun _ => 0) 33)) (w.heap.size + 1) .i64 16 (fun _ => 0) 33 ∧ Row (wg.alloc (.cells (FR .i64 16 fun _ => 0) 33)) n3 .i64 16 (x0R f) 33 := ⟨hHeld.1.alloc _, hHeld.2.1.alloc _, hHeld.2.2.alloc _⟩
            have HBf := Aside0.mk (HBj.out.alloc HBj.out.size (.cells (FR .i64 16 fun _ => 0) 33))
            have hlo5 : n3 < wg.heap.size := hHeld.2.2.lt
            have HR5 := Aside0.mk (Row.new wg .i64 16 (fun _ => 0) 33)
            generalize wg.alloc (.cells (FR .i64 16 fun _ => 0) 33) = wf505 at hSn HBf HR5 ⊢
            refine hK.out _ _ hSn (fun hHeld => ?_)
            clear hSn hK K
            refine norm_ (a' := ?_) ?_ ?_
            rotate_left
            · show Act.put _ (some 5) _ = _
              simp only [Act.put, List.setIfInBounds_toArray, List.set_cons_zero, List.set_cons_succ, i64_w, i32_w]
              rfl
            exact norm_ (by first | (simp only [putAll, Act.put, List.setIfInBounds_toArray, List.set_cons_zero, List.set_cons_succ]; done) | (simp only [putAll, Act.put, List.setIfInBounds_toArray, List.set_cons_zero, List.set_cons_succ]; rfl)) (hJ1_5 wg.heap.size _ ⟨HR5.out, hHeld.1, hHeld.2.1, hHeld.2.2, HBf.out, hlo5⟩)
        ·skip
         rintro n5 wg ⟨HX5, hq0, hq1, hq2, hbj, hlo5⟩
         have HX5 := Aside0.mk HX5
         have HBj := Aside0.mk hbj
         clear hbj
         have hHeld : Row wg w.heap.size .i64 16 f 33 ∧ Row wg (w.heap.size + 1) .i64 16 (fun _ => 0) 33 ∧ Row wg n3 .i64 16 (x0R f) 33 := ⟨hq0, hq1, hq2⟩
         clear hq0 hq1 hq2
         refine norm_ (a' := ?_) ?_ ?_
         rotate_left
         · simp only [putAll, Act.put, List.setIfInBounds_toArray, List.set_cons_zero, List.set_cons_succ]
           rfl
         refine one_ (i := 2) (N := some 11) #[true, true, true, false, false, true, false] rfl rfl (one_of HT_.out (by kernel_rfl)) (by decide) (fun K hK => ?_)
         refine goes_ Try.func43 rfl rfl #[.int .i64 253, .int .i64 5] rfl rfl rfl (by simp only [List.map_toArray, List.map_cons, List.map_nil]; rfl) ((Exponent_calls 253 5 _ (by omega) (by omega)).mono ?_)
         rintro e wf506 ⟨rfl, hb⟩
         have hSn : Row wf506 w.heap.size .i64 16 f 33 ∧ Row wf506 (w.heap.size + 1) .i64 16 (fun _ => 0) 33 ∧ Row wf506 n3 .i64 16 (x0R f) 33 := ⟨hHeld.1.below hb hHeld.1.lt, hHeld.2.1.below hb hHeld.2.1.lt, hHeld.2.2.below hb hHeld.2.2.lt⟩
         have HBf := Aside0.mk (HBj.out.trans (hb.mono HBj.out.size))
         have HR5 := Aside0.mk (HX5.out.below hb HX5.out.lt)
         clear hb
         refine ⟨_, rfl, hK.out _ _ hSn (fun hHeld => ?_)⟩
         clear hSn hK K
         refine norm_ (a' := ?_) ?_ ?_
         rotate_left
         · show Act.put _ (some 11) _ = _
           simp only [Act.put, List.setIfInBounds_toArray, List.set_cons_zero, List.set_cons_succ, i64_w, i32_w]
           rfl
         exact norm_ (by first | (simp only [putAll, Act.put, List.setIfInBounds_toArray, List.set_cons_zero, List.set_cons_succ]; done) | (simp only [putAll, Act.put, List.setIfInBounds_toArray, List.set_cons_zero, List.set_cons_succ]; rfl)) (hJ1_2_5 n5 _ ⟨HR5.out, hHeld.1, hHeld.2.1, hHeld.2.2, HBf.out, hlo5⟩)
       ·skip
        rintro _ wg ⟨hq0, hq1, hq2, hbj⟩
        have HBj := Aside0.mk hbj
        clear hbj
        have hHeld : Row wg w.heap.size .i64 16 f 33 ∧ Row wg (w.heap.size + 1) .i64 16 (fun _ => 0) 33 ∧ Row wg n3 .i64 16 (x0R f) 33 := ⟨hq0, hq1, hq2⟩
        clear hq0 hq1 hq2
        refine norm_ (a' := ?_) ?_ ?_
        rotate_left
        · simp only [putAll, Act.put, List.setIfInBounds_toArray, List.set_cons_zero, List.set_cons_succ]
          rfl
        refine two_ (i := 3) (j := 5) (Ni := some 12) (Nj := some 5) #[true, true, true, true, false, false, false] #[true, true, true, false, false, true, false] rfl rfl rfl rfl (by kernel_rfl) (by decide) (by decide) (fun K hK => ?_) (fun K hK => ?_)
        · skip
          refine goes_ Try.func29 rfl rfl #[.agg (FR .i64 16 (carryN (fun i => if i = 0 then 2 else 0) 16)), .string (sOf (exB 253 5))] rfl rfl rfl (by simp only [List.map_toArray, List.map_cons, List.map_nil]; rfl) ((pow_ref _ (exB 253 5) _ (Re.small 2 (by omega)).1 (exB_By _ _)).mono ?_)
          rintro e wf507 ⟨rfl, hb⟩
          have hSn : Row wf507 w.heap.size .i64 16 f 33 ∧ Row wf507 (w.heap.size + 1) .i64 16 (fun _ => 0) 33 ∧ Row wf507 n3 .i64 16 (x0R f) 33 := ⟨hHeld.1.below hb hHeld.1.lt, hHeld.2.1.below hb hHeld.2.1.lt, hHeld.2.2.below hb hHeld.2.2.lt⟩
          have HBf := Aside0.mk (HBj.out.trans (hb.mono HBj.out.size))
          clear hb
          refine ⟨_, rfl, hK.out _ _ hSn (fun hHeld => ?_)⟩
          clear hSn hK K
          refine norm_ (a' := ?_) ?_ ?_
          rotate_left
          · show Act.put _ (some 12) _ = _
            simp only [Act.put, List.setIfInBounds_toArray, List.set_cons_zero, List.set_cons_succ, i64_w, i32_w]
            rfl
          exact norm_ (by first | (simp only [putAll, Act.put, List.setIfInBounds_toArray, List.set_cons_zero, List.set_cons_succ]; done) | (simp only [putAll, Act.put, List.setIfInBounds_toArray, List.set_cons_zero, List.set_cons_succ]; rfl)) (hJ1_2_3 () _ ⟨hHeld.1, hHeld.2.1, hHeld.2.2, HBf.out⟩)
        · skip
          refine event_step (by rfl) (v := .pointer (some ⟨wg.heap.size, 0, none⟩)) (w1 := wg.alloc (.cells (FR .i64 16 fun _ => 0) 33)) (by first | (go_simp; done) | (go_simp; rfl)) ?_
          have hSn : Row (wg.alloc (.cells (FR .i64 16 fun _ => 0) 33)) w.heap.size .i64 16 f 33 ∧ Row (wg.alloc (.cells (FR .i64 16 fun _ => 0) 33)) (w.heap.size + 1) .i64 16 (fun _ => 0) 33 ∧ Row (wg.alloc (.cells (FR .i64 16 fun _ => 0) 33)) n3 .i64 16 (x0R f) 33 := ⟨hHeld.1.alloc _, hHeld.2.1.alloc _, hHeld.2.2.alloc _⟩
          have HBf := Aside0.mk (HBj.out.alloc HBj.out.size (.cells (FR .i64 16 fun _ => 0) 33))
          have hlo5 : n3 < wg.heap.size := hHeld.2.2.lt
          have HR5 := Aside0.mk (Row.new wg .i64 16 (fun _ => 0) 33)
          generalize wg.alloc (.cells (FR .i64 16 fun _ => 0) 33) = wf508 at hSn HBf HR5 ⊢
          refine hK.out _ _ hSn (fun hHeld => ?_)
          clear hSn hK K
          refine norm_ (a' := ?_) ?_ ?_
          rotate_left
          · show Act.put _ (some 5) _ = _
            simp only [Act.put, List.setIfInBounds_toArray, List.set_cons_zero, List.set_cons_succ, i64_w, i32_w]
            rfl
          exact norm_ (by first | (simp only [putAll, Act.put, List.setIfInBounds_toArray, List.set_cons_zero, List.set_cons_succ]; done) | (simp only [putAll, Act.put, List.setIfInBounds_toArray, List.set_cons_zero, List.set_cons_succ]; rfl)) (hJ1_2_5 wg.heap.size _ ⟨HR5.out, hHeld.1, hHeld.2.1, hHeld.2.2, HBf.out, hlo5⟩)
      ·skip
       rintro n5 wg ⟨HX5, hq0, hq1, hq2, hbj, hlo5⟩
       have HX5 := Aside0.mk HX5
       have HBj := Aside0.mk hbj
       clear hbj
       have hHeld : Row wg w.heap.size .i64 16 f 33 ∧ Row wg (w.heap.size + 1) .i64 16 (fun _ => 0) 33 ∧ Row wg n3 .i64 16 (x0R f) 33 := ⟨hq0, hq1, hq2⟩
       clear hq0 hq1 hq2
       refine norm_ (a' := ?_) ?_ ?_
       rotate_left
       · simp only [putAll, Act.put, List.setIfInBounds_toArray, List.set_cons_zero, List.set_cons_succ]
         rfl
       refine one_ (i := 3) (N := some 12) #[true, true, true, true, false, true, false] rfl rfl (one_of HT_.out (by kernel_rfl)) (by decide) (fun K hK => ?_)
       refine goes_ Try.func29 rfl rfl #[.agg (FR .i64 16 (carryN (fun i => if i = 0 then 2 else 0) 16)), .string (sOf (exB 253 5))] rfl rfl rfl (by simp only [List.map_toArray, List.map_cons, List.map_nil]; rfl) ((pow_ref _ (exB 253 5) _ (Re.small 2 (by omega)).1 (exB_By _ _)).mono ?_)
       rintro e wf509 ⟨rfl, hb⟩
       have hSn : Row wf509 w.heap.size .i64 16 f 33 ∧ Row wf509 (w.heap.size + 1) .i64 16 (fun _ => 0) 33 ∧ Row wf509 n3 .i64 16 (x0R f) 33 := ⟨hHeld.1.below hb hHeld.1.lt, hHeld.2.1.below hb hHeld.2.1.lt, hHeld.2.2.below hb hHeld.2.2.lt⟩
       have HBf := Aside0.mk (HBj.out.trans (hb.mono HBj.out.size))
       have HR5 := Aside0.mk (HX5.out.below hb HX5.out.lt)
       clear hb
       refine ⟨_, rfl, hK.out _ _ hSn (fun hHeld => ?_)⟩
       clear hSn hK K
       refine norm_ (a' := ?_) ?_ ?_
       rotate_left
       · show Act.put _ (some 12) _ = _
         simp only [Act.put, List.setIfInBounds_toArray, List.set_cons_zero, List.set_cons_succ, i64_w, i32_w]
         rfl
       exact norm_ (by first | (simp only [putAll, Act.put, List.setIfInBounds_toArray, List.set_cons_zero, List.set_cons_succ]; done) | (simp only [putAll, Act.put, List.setIfInBounds_toArray, List.set_cons_zero, List.set_cons_succ]; rfl)) (hJ1_2_3_5 n5 _ ⟨HR5.out, hHeld.1, hHeld.2.1, hHeld.2.2, HBf.out, hlo5⟩)
     ·skip
      rintro _ wg ⟨hq0, hq1, hq2, hbj⟩
      have HBj := Aside0.mk hbj
      clear hbj
      have hHeld : Row wg w.heap.size .i64 16 f 33 ∧ Row wg (w.heap.size + 1) .i64 16 (fun _ => 0) 33 ∧ Row wg n3 .i64 16 (x0R f) 33 := ⟨hq0, hq1, hq2⟩
      clear hq0 hq1 hq2
      refine norm_ (a' := ?_) ?_ ?_
      rotate_left
      · simp only [putAll, Act.put, List.setIfInBounds_toArray, List.set_cons_zero, List.set_cons_succ]
        rfl
      refine two_ (i := 4) (j := 5) (Ni := some 13) (Nj := some 5) #[true, true, true, true, true, false, false] #[true, true, true, true, false, true, false] rfl rfl rfl rfl (by kernel_rfl) (by decide) (by decide) (fun K hK => ?_) (fun K hK => ?_)
      · skip
        refine goes_ Try.func27 rfl rfl #[.agg (FR .i64 16 (x0R f)), .agg (FR .i64 16 (iR))] rfl rfl rfl (by simp only [List.map_toArray, List.map_cons, List.map_nil]; rfl) ((mulR_c _ _ _ (x0R_Re HF.out).1 iR_Re.1).mono ?_)
        rintro e wf510 ⟨rfl, hb⟩
        have hSn : Row wf510 w.heap.size .i64 16 f 33 ∧ Row wf510 (w.heap.size + 1) .i64 16 (fun _ => 0) 33 ∧ Row wf510 n3 .i64 16 (x0R f) 33 := ⟨hHeld.1.below hb hHeld.1.lt, hHeld.2.1.below hb hHeld.2.1.lt, hHeld.2.2.below hb hHeld.2.2.lt⟩
        have HBf := Aside0.mk (HBj.out.trans (hb.mono HBj.out.size))
        clear hb
        refine ⟨_, rfl, hK.out _ _ hSn (fun hHeld => ?_)⟩
        clear hSn hK K
        refine norm_ (a' := ?_) ?_ ?_
        rotate_left
        · show Act.put _ (some 13) _ = _
          simp only [Act.put, List.setIfInBounds_toArray, List.set_cons_zero, List.set_cons_succ, i64_w, i32_w]
          rfl
        exact norm_ (by first | (simp only [putAll, Act.put, List.setIfInBounds_toArray, List.set_cons_zero, List.set_cons_succ]; done) | (simp only [putAll, Act.put, List.setIfInBounds_toArray, List.set_cons_zero, List.set_cons_succ]; rfl)) (hJ1_2_3_4 () _ ⟨hHeld.1, hHeld.2.1, hHeld.2.2, HBf.out⟩)
      · skip
        refine event_step (by rfl) (v := .pointer (some ⟨wg.heap.size, 0, none⟩)) (w1 := wg.alloc (.cells (FR .i64 16 fun _ => 0) 33)) (by first | (go_simp; done) | (go_simp; rfl)) ?_
        have hSn : Row (wg.alloc (.cells (FR .i64 16 fun _ => 0) 33)) w.heap.size .i64 16 f 33 ∧ Row (wg.alloc (.cells (FR .i64 16 fun _ => 0) 33)) (w.heap.size + 1) .i64 16 (fun _ => 0) 33 ∧ Row (wg.alloc (.cells (FR .i64 16 fun _ => 0) 33)) n3 .i64 16 (x0R f) 33 := ⟨hHeld.1.alloc _, hHeld.2.1.alloc _, hHeld.2.2.alloc _⟩
        have HBf := Aside0.mk (HBj.out.alloc HBj.out.size (.cells (FR .i64 16 fun _ => 0) 33))
        have hlo5 : n3 < wg.heap.size := hHeld.2.2.lt
        have HR5 := Aside0.mk (Row.new wg .i64 16 (fun _ => 0) 33)
        generalize wg.alloc (.cells (FR .i64 16 fun _ => 0) 33) = wf511 at hSn HBf HR5 ⊢
        refine hK.out _ _ hSn (fun hHeld => ?_)
        clear hSn hK K
        refine norm_ (a' := ?_) ?_ ?_
        rotate_left
        · show Act.put _ (some 5) _ = _
          simp only [Act.put, List.setIfInBounds_toArray, List.set_cons_zero, List.set_cons_succ, i64_w, i32_w]
          rfl
        exact norm_ (by first | (simp only [putAll, Act.put, List.setIfInBounds_toArray, List.set_cons_zero, List.set_cons_succ]; done) | (simp only [putAll, Act.put, List.setIfInBounds_toArray, List.set_cons_zero, List.set_cons_succ]; rfl)) (hJ1_2_3_5 wg.heap.size _ ⟨HR5.out, hHeld.1, hHeld.2.1, hHeld.2.2, HBf.out, hlo5⟩)
    ·skip
     rintro n5 wg ⟨HX5, hq0, hq1, hq2, hbj, hlo5⟩
     have HX5 := Aside0.mk HX5
     have HBj := Aside0.mk hbj
     clear hbj
     have hHeld : Row wg w.heap.size .i64 16 f 33 ∧ Row wg (w.heap.size + 1) .i64 16 (fun _ => 0) 33 ∧ Row wg n3 .i64 16 (x0R f) 33 := ⟨hq0, hq1, hq2⟩
     clear hq0 hq1 hq2
     refine norm_ (a' := ?_) ?_ ?_
     rotate_left
     · simp only [putAll, Act.put, List.setIfInBounds_toArray, List.set_cons_zero, List.set_cons_succ]
       rfl
     refine one_ (i := 4) (N := some 13) #[true, true, true, true, true, true, false] rfl rfl (one_of HT_.out (by kernel_rfl)) (by decide) (fun K hK => ?_)
     refine goes_ Try.func27 rfl rfl #[.agg (FR .i64 16 (x0R f)), .agg (FR .i64 16 (iR))] rfl rfl rfl (by simp only [List.map_toArray, List.map_cons, List.map_nil]; rfl) ((mulR_c _ _ _ (x0R_Re HF.out).1 iR_Re.1).mono ?_)
     rintro e wf512 ⟨rfl, hb⟩
     have hSn : Row wf512 w.heap.size .i64 16 f 33 ∧ Row wf512 (w.heap.size + 1) .i64 16 (fun _ => 0) 33 ∧ Row wf512 n3 .i64 16 (x0R f) 33 := ⟨hHeld.1.below hb hHeld.1.lt, hHeld.2.1.below hb hHeld.2.1.lt, hHeld.2.2.below hb hHeld.2.2.lt⟩
     have HBf := Aside0.mk (HBj.out.trans (hb.mono HBj.out.size))
     have HR5 := Aside0.mk (HX5.out.below hb HX5.out.lt)
     clear hb
     refine ⟨_, rfl, hK.out _ _ hSn (fun hHeld => ?_)⟩
     clear hSn hK K
     refine norm_ (a' := ?_) ?_ ?_
     rotate_left
     · show Act.put _ (some 13) _ = _
       simp only [Act.put, List.setIfInBounds_toArray, List.set_cons_zero, List.set_cons_succ, i64_w, i32_w]
       rfl
     exact norm_ (by first | (simp only [putAll, Act.put, List.setIfInBounds_toArray, List.set_cons_zero, List.set_cons_succ]; done) | (simp only [putAll, Act.put, List.setIfInBounds_toArray, List.set_cons_zero, List.set_cons_succ]; rfl)) (hJ1_2_3_4_5 n5 _ ⟨HR5.out, hHeld.1, hHeld.2.1, hHeld.2.2, HBf.out, hlo5⟩)
   ·skip
    rintro _ wg ⟨hq0, hq1, hq2, hbj⟩
    have HBj := Aside0.mk hbj
    clear hbj
    have hHeld : Row wg w.heap.size .i64 16 f 33 ∧ Row wg (w.heap.size + 1) .i64 16 (fun _ => 0) 33 ∧ Row wg n3 .i64 16 (x0R f) 33 := ⟨hq0, hq1, hq2⟩
    clear hq0 hq1 hq2
    refine norm_ (a' := ?_) ?_ ?_
    rotate_left
    · simp only [putAll, Act.put, List.setIfInBounds_toArray, List.set_cons_zero, List.set_cons_succ]
      rfl
    refine one_ (i := 5) (N := some 5) #[true, true, true, true, true, true, false] rfl rfl (one_of HT_.out (by kernel_rfl)) (by decide) (fun K hK => ?_)
    refine event_step (by rfl) (v := .pointer (some ⟨wg.heap.size, 0, none⟩)) (w1 := wg.alloc (.cells (FR .i64 16 fun _ => 0) 33)) (by first | (go_simp; done) | (go_simp; rfl)) ?_
    have hSn : Row (wg.alloc (.cells (FR .i64 16 fun _ => 0) 33)) w.heap.size .i64 16 f 33 ∧ Row (wg.alloc (.cells (FR .i64 16 fun _ => 0) 33)) (w.heap.size + 1) .i64 16 (fun _ => 0) 33 ∧ Row (wg.alloc (.cells (FR .i64 16 fun _ => 0) 33)) n3 .i64 16 (x0R f) 33 := ⟨hHeld.1.alloc _, hHeld.2.1.alloc _, hHeld.2.2.alloc _⟩
    have HBf := Aside0.mk (HBj.out.alloc HBj.out.size (.cells (FR .i64 16 fun _ => 0) 33))
    have hlo5 : n3 < wg.heap.size := hHeld.2.2.lt
    have HR5 := Aside0.mk (Row.new wg .i64 16 (fun _ => 0) 33)
    generalize wg.alloc (.cells (FR .i64 16 fun _ => 0) 33) = wf513 at hSn HBf HR5 ⊢
    refine hK.out _ _ hSn (fun hHeld => ?_)
    clear hSn hK K
    refine norm_ (a' := ?_) ?_ ?_
    rotate_left
    · show Act.put _ (some 5) _ = _
      simp only [Act.put, List.setIfInBounds_toArray, List.set_cons_zero, List.set_cons_succ, i64_w, i32_w]
      rfl
    exact norm_ (by first | (simp only [putAll, Act.put, List.setIfInBounds_toArray, List.set_cons_zero, List.set_cons_succ]; done) | (simp only [putAll, Act.put, List.setIfInBounds_toArray, List.set_cons_zero, List.set_cons_succ]; rfl)) (hJ1_2_3_4_5 wg.heap.size _ ⟨HR5.out, hHeld.1, hHeld.2.1, hHeld.2.2, HBf.out, hlo5⟩)
  rintro n5 wj ⟨HX5, hq0, hq1, hq2, hbj, hlo5⟩
  have HX5 := Aside0.mk HX5
  have HBj := Aside0.mk hbj
  clear hbj
  have hHeld : Row wj w.heap.size .i64 16 f 33 ∧ Row wj (w.heap.size + 1) .i64 16 (fun _ => 0) 33 ∧ Row wj n3 .i64 16 (x0R f) 33 := ⟨hq0, hq1, hq2⟩
  clear hq0 hq1 hq2
  refine norm_ (a' := ?_) ?_ ?_
  rotate_left
  · simp only [putAll, Act.put, List.setIfInBounds_toArray, List.set_cons_zero, List.set_cons_succ]
    rfl
  refine one_ (i := 6) (N := none) #[true, true, true, true, true, true, true] rfl rfl (one_of HT_.out (by kernel_rfl)) (by decide) (fun K hK => ?_)
  refine oper_storeG (mulR (x0R f) iR) HX5.out info33 rfl rfl rfl rfl rfl ?_
  intro ws514 hs hr
  have hSn : Row ws514 w.heap.size .i64 16 f 33 ∧ Row ws514 (w.heap.size + 1) .i64 16 (fun _ => 0) 33 ∧ Row ws514 n3 .i64 16 (x0R f) 33 := ⟨hHeld.1.stored hs (by omega), hHeld.2.1.stored hs (by omega), hHeld.2.2.stored hs (by omega)⟩
  have HX5 := Aside0.mk hr
  have HBs514 := Aside0.mk (hs.bel _ _ (by omega) HBj.out)
  clear hs hr
  refine hK.out _ _ hSn (fun hHeld => ?_)
  clear hSn hK K
  refine done_ (done_of HT_.out (by kernel_rfl)) ?_
  have hl0 := hHeld.1.lt
  have hl1 := hHeld.2.1.lt
  have HXA := Aside0.mk hHeld.1
  have HXZ := Aside0.mk hHeld.2.1
  have HX3 := Aside0.mk hHeld.2.2
  clear hHeld HT_ HW_
  try go_wp2
  cases hb0 : sq0 n
  · have HBV : Aside0 (decide (x0N n * x0N n % PP = n % PP) = false) := ⟨hb0⟩
    have HB0 := Aside0.mk hb0
    have HX1 : Aside0 (x1R f n = mulR (x0R f) iR) := ⟨x1R_n hb0⟩
    clear hb0
    have HY5 : Aside0 (Row ws514.drew n5 .i64 16 (mulR (x0R f) iR) 33) := ⟨HX5.out⟩
    have hh : Row ws514.drew w.heap.size .i64 16 f 33 ∧ Row ws514.drew (w.heap.size + 1) .i64 16 (fun _ => 0) 33 ∧ Row ws514.drew n3 .i64 16 (x0R f) 33 := ⟨HXA.out, HXZ.out, HX3.out⟩
    have HBq := Aside0.mk HBs514.out.drew
    clear HXA HXZ HX3 HBs514
    refine start_ (n := 6) (S := (fun w' => Row w' w.heap.size .i64 16 f 33 ∧ Row w' (w.heap.size + 1) .i64 16 (fun _ => 0) 33 ∧ Row w' n3 .i64 16 (x0R f) 33)) (ds := []) #[false, false, false, false, false, false] (by kernel_rfl) rfl rfl hh (fun hHeld => ?_); refine with_tabW tab3303 bits3303 (fun HT_ HW_ => ?_)
    generalize ws514.drew = wq at HBq hHeld hh HY5 ⊢
    clear hh
    refine take_ (i := 0) (N := some 14) (v := ?_) (a' := ?_) #[true, false, false, false, false, false] rfl rfl (take_ofW HT_.out HW_.out (by kernel_rfl)) (fun _ _ _ h => h) (Or.inl ⟨by rfl, ?_⟩) hHeld ?_ ?_
    rotate_left
    · intro w' hsw
      refine exec_load (x := .tmp 4) hsw.2.2 Try.underlying33 info33 rfl ?_ ?_ <;> rfl
    rotate_left
    · simp only [Act.put, List.setIfInBounds_toArray, List.set_cons_zero, List.set_cons_succ, i64_w, i32_w]
      rfl
    refine take_ (i := 1) (N := some 15) (v := ?_) (a' := ?_) #[true, true, false, false, false, false] rfl rfl (take_ofW HT_.out HW_.out (by kernel_rfl)) (fun _ _ _ h => h) (Or.inl ⟨by rfl, ?_⟩) hHeld ?_ ?_
    rotate_left
    · intro w' hsw
      refine exec_load (x := .tmp 4) hsw.2.2 Try.underlying33 info33 rfl ?_ ?_ <;> rfl
    rotate_left
    · simp only [Act.put, List.setIfInBounds_toArray, List.set_cons_zero, List.set_cons_succ, i64_w, i32_w]
      rfl
    refine take_ (i := 3) (N := some 17) (v := ?_) (a' := ?_) #[true, true, false, true, false, false] rfl rfl (take_ofW HT_.out HW_.out (by kernel_rfl)) (fun _ _ _ h => h) (Or.inl ⟨by rfl, ?_⟩) hHeld ?_ ?_
    rotate_left
    · intro w' hsw
      refine exec_load (x := .tmp 1) hsw.1 Try.underlying33 info33 rfl ?_ ?_ <;> rfl
    rotate_left
    · simp only [Act.put, List.setIfInBounds_toArray, List.set_cons_zero, List.set_cons_succ, i64_w, i32_w]
      rfl
    refine one_ (i := 2) (N := some 16) #[true, true, true, true, false, false] rfl rfl (one_of HT_.out (by kernel_rfl)) (by decide) (fun K hK => ?_)
    refine goes_ Try.func27 rfl rfl #[.agg (FR .i64 16 (x0R f)), .agg (FR .i64 16 (x0R f))] rfl rfl rfl (by simp only [List.map_toArray, List.map_cons, List.map_nil]; rfl) ((mulR_c _ _ _ (x0R_Re HF.out).1 (x0R_Re HF.out).1).mono ?_)
    rintro e wc1101 ⟨rfl, hb⟩
    have hSn : Row wc1101 w.heap.size .i64 16 f 33 ∧ Row wc1101 (w.heap.size + 1) .i64 16 (fun _ => 0) 33 ∧ Row wc1101 n3 .i64 16 (x0R f) 33 := ⟨hHeld.1.below hb hHeld.1.lt, hHeld.2.1.below hb hHeld.2.1.lt, hHeld.2.2.below hb hHeld.2.2.lt⟩
    have HBc1101 := Aside0.mk (HBq.out.trans (hb.mono HBq.out.size))
    have HY5 := Aside0.mk (HY5.out.below hb HY5.out.lt)
    clear hb
    refine ⟨_, rfl, hK.out _ _ hSn (fun hHeld => ?_)⟩
    clear hSn
    clear hK K
    refine norm_ (a' := ?_) ?_ ?_
    rotate_left
    · show Act.put _ (some 16) _ = _
      simp only [Act.put, List.setIfInBounds_toArray, List.set_cons_zero, List.set_cons_succ, i64_w, i32_w]
      rfl
    refine one_ (i := 4) (N := some 18) #[true, true, true, true, true, false] rfl rfl (one_of HT_.out (by kernel_rfl)) (by decide) (fun K hK => ?_)
    refine goes_ Try.func44 rfl rfl #[.agg (FR .i64 16 (mulR (x0R f) (x0R f))), .agg (FR .i64 16 (f))] rfl rfl rfl (by simp only [List.map_toArray, List.map_cons, List.map_nil]; rfl) ((refIs_bool ((x0R_Re HF.out).mul (x0R_Re HF.out)) HF.out false HBV.out _).mono ?_)
    rintro e wc1102 ⟨rfl, hb⟩
    have hSn : Row wc1102 w.heap.size .i64 16 f 33 ∧ Row wc1102 (w.heap.size + 1) .i64 16 (fun _ => 0) 33 ∧ Row wc1102 n3 .i64 16 (x0R f) 33 := ⟨hHeld.1.below hb hHeld.1.lt, hHeld.2.1.below hb hHeld.2.1.lt, hHeld.2.2.below hb hHeld.2.2.lt⟩
    have HBc1102 := Aside0.mk (HBc1101.out.trans (hb.mono HBc1101.out.size))
    have HY5 := Aside0.mk (HY5.out.below hb HY5.out.lt)
    clear hb
    refine ⟨_, rfl, hK.out _ _ hSn (fun hHeld => ?_)⟩
    clear hSn
    clear hK K
    refine norm_ (a' := ?_) ?_ ?_
    rotate_left
    · show Act.put _ (some 18) _ = _
      simp only [Act.put, List.setIfInBounds_toArray, List.set_cons_zero, List.set_cons_succ, i64_w, i32_w]
      rfl
    refine pure_ (i := 5) (N := some 19) (v := ?_) (a' := ?_) #[true, true, true, true, true, true] rfl rfl (any_of HT_.out (by kernel_rfl)) (fun _ _ _ h => h) (Or.inl ⟨by rfl, ?_⟩) ?_ ?_
    rotate_left
    · intro w'
      go_simp
      with_reducible rfl
    rotate_left
    · simp only [Act.put, List.setIfInBounds_toArray, List.set_cons_zero, List.set_cons_succ, i64_w, i32_w]
      rfl
    refine done_ (done_of HT_.out (by kernel_rfl)) ?_
    have HXA := Aside0.mk hHeld.1
    have HXZ := Aside0.mk hHeld.2.1
    have HX3 := Aside0.mk hHeld.2.2
    have hl3 := HX3.out.lt
    clear hHeld HT_ HW_ HBV
    go_wp2_with (first | refine step_load HY5.out Try.underlying33 info33 rfl rfl rfl rfl ?_ | (refine step_storeG (mulR (x0R f) iR) HX3.out info33 rfl rfl rfl rfl rfl ?_; intro wk hs hr; have hx3 := hr; have HXA2 := Aside0.mk (HXA.out.stored hs (by omega)); have HXZ2 := Aside0.mk (HXZ.out.stored hs (by omega)); have HBk := Aside0.mk (hs.bel _ _ (show w.heap.size ≤ n3 by omega) HBc1102.out); clear hs hr))
    have HX3 : Aside0 (Row wk n3 .i64 16 (x1R f n) 33) := ⟨by rw [HX1.out]; exact hx3⟩
    clear HXA HXZ hx3
    have HXA := HXA2
    have HXZ := HXZ2
    clear HXA2 HXZ2
    cases hb1 : rOk iZ n
    · have HBV : Aside0 (decide (x1N iZ n * x1N iZ n % PP = n % PP) = false) := ⟨hb1⟩
      have HB1 := Aside0.mk hb1
      clear hb1
      have hh : Row wk.drew w.heap.size .i64 16 f 33 ∧ Row wk.drew (w.heap.size + 1) .i64 16 (fun _ => 0) 33 ∧ Row wk.drew n3 .i64 16 (x1R f n) 33 := ⟨HXA.out, HXZ.out, HX3.out⟩
      have HBq := Aside0.mk HBk.out.drew
      clear HXA HXZ HX3 HBk
      refine start_ (n := 6) (S := (fun w' => Row w' w.heap.size .i64 16 f 33 ∧ Row w' (w.heap.size + 1) .i64 16 (fun _ => 0) 33 ∧ Row w' n3 .i64 16 (x1R f n) 33)) (ds := []) #[false, false, false, false, false, false] (by kernel_rfl) rfl rfl hh (fun hHeld => ?_); refine with_tabW tab3305 bits3305 (fun HT_ HW_ => ?_)
      generalize wk.drew = wq at HBq hHeld hh ⊢
      clear hh
      refine take_ (i := 0) (N := some 21) (v := ?_) (a' := ?_) #[true, false, false, false, false, false] rfl rfl (take_ofW HT_.out HW_.out (by kernel_rfl)) (fun _ _ _ h => h) (Or.inl ⟨by rfl, ?_⟩) hHeld ?_ ?_
      rotate_left
      · intro w' hsw
        refine exec_load (x := .tmp 4) hsw.2.2 Try.underlying33 info33 rfl ?_ ?_ <;> rfl
      rotate_left
      · simp only [Act.put, List.setIfInBounds_toArray, List.set_cons_zero, List.set_cons_succ, i64_w, i32_w]
        rfl
      refine take_ (i := 1) (N := some 22) (v := ?_) (a' := ?_) #[true, true, false, false, false, false] rfl rfl (take_ofW HT_.out HW_.out (by kernel_rfl)) (fun _ _ _ h => h) (Or.inl ⟨by rfl, ?_⟩) hHeld ?_ ?_
      rotate_left
      · intro w' hsw
        refine exec_load (x := .tmp 4) hsw.2.2 Try.underlying33 info33 rfl ?_ ?_ <;> rfl
      rotate_left
      · simp only [Act.put, List.setIfInBounds_toArray, List.set_cons_zero, List.set_cons_succ, i64_w, i32_w]
        rfl
      refine take_ (i := 3) (N := some 24) (v := ?_) (a' := ?_) #[true, true, false, true, false, false] rfl rfl (take_ofW HT_.out HW_.out (by kernel_rfl)) (fun _ _ _ h => h) (Or.inl ⟨by rfl, ?_⟩) hHeld ?_ ?_
      rotate_left
      · intro w' hsw
        refine exec_load (x := .tmp 1) hsw.1 Try.underlying33 info33 rfl ?_ ?_ <;> rfl
      rotate_left
      · simp only [Act.put, List.setIfInBounds_toArray, List.set_cons_zero, List.set_cons_succ, i64_w, i32_w]
        rfl
      refine one_ (i := 2) (N := some 23) #[true, true, true, true, false, false] rfl rfl (one_of HT_.out (by kernel_rfl)) (by decide) (fun K hK => ?_)
      refine goes_ Try.func27 rfl rfl #[.agg (FR .i64 16 (x1R f n)), .agg (FR .i64 16 (x1R f n))] rfl rfl rfl (by simp only [List.map_toArray, List.map_cons, List.map_nil]; rfl) ((mulR_c _ _ _ (x1R_Re HF.out).1 (x1R_Re HF.out).1).mono ?_)
      rintro e wc1801 ⟨rfl, hb⟩
      have hSn : Row wc1801 w.heap.size .i64 16 f 33 ∧ Row wc1801 (w.heap.size + 1) .i64 16 (fun _ => 0) 33 ∧ Row wc1801 n3 .i64 16 (x1R f n) 33 := ⟨hHeld.1.below hb hHeld.1.lt, hHeld.2.1.below hb hHeld.2.1.lt, hHeld.2.2.below hb hHeld.2.2.lt⟩
      have HBc1801 := Aside0.mk (HBq.out.trans (hb.mono HBq.out.size))
      clear hb
      refine ⟨_, rfl, hK.out _ _ hSn (fun hHeld => ?_)⟩
      clear hSn
      clear hK K
      refine norm_ (a' := ?_) ?_ ?_
      rotate_left
      · show Act.put _ (some 23) _ = _
        simp only [Act.put, List.setIfInBounds_toArray, List.set_cons_zero, List.set_cons_succ, i64_w, i32_w]
        rfl
      refine one_ (i := 4) (N := some 25) #[true, true, true, true, true, false] rfl rfl (one_of HT_.out (by kernel_rfl)) (by decide) (fun K hK => ?_)
      refine goes_ Try.func44 rfl rfl #[.agg (FR .i64 16 (mulR (x1R f n) (x1R f n))), .agg (FR .i64 16 (f))] rfl rfl rfl (by simp only [List.map_toArray, List.map_cons, List.map_nil]; rfl) ((refIs_bool ((x1R_Re HF.out).mul (x1R_Re HF.out)) HF.out false HBV.out _).mono ?_)
      rintro e wc1802 ⟨rfl, hb⟩
      have hSn : Row wc1802 w.heap.size .i64 16 f 33 ∧ Row wc1802 (w.heap.size + 1) .i64 16 (fun _ => 0) 33 ∧ Row wc1802 n3 .i64 16 (x1R f n) 33 := ⟨hHeld.1.below hb hHeld.1.lt, hHeld.2.1.below hb hHeld.2.1.lt, hHeld.2.2.below hb hHeld.2.2.lt⟩
      have HBc1802 := Aside0.mk (HBc1801.out.trans (hb.mono HBc1801.out.size))
      clear hb
      refine ⟨_, rfl, hK.out _ _ hSn (fun hHeld => ?_)⟩
      clear hSn
      clear hK K
      refine norm_ (a' := ?_) ?_ ?_
      rotate_left
      · show Act.put _ (some 25) _ = _
        simp only [Act.put, List.setIfInBounds_toArray, List.set_cons_zero, List.set_cons_succ, i64_w, i32_w]
        rfl
      refine pure_ (i := 5) (N := some 26) (v := ?_) (a' := ?_) #[true, true, true, true, true, true] rfl rfl (any_of HT_.out (by kernel_rfl)) (fun _ _ _ h => h) (Or.inl ⟨by rfl, ?_⟩) ?_ ?_
      rotate_left
      · intro w'
        go_simp
        with_reducible rfl
      rotate_left
      · simp only [Act.put, List.setIfInBounds_toArray, List.set_cons_zero, List.set_cons_succ, i64_w, i32_w]
        rfl
      refine done_ (done_of HT_.out (by kernel_rfl)) ?_
      have HXA := Aside0.mk hHeld.1
      have HXZ := Aside0.mk hHeld.2.1
      have HX3 := Aside0.mk hHeld.2.2
      have hl3 := HX3.out.lt
      clear hHeld HT_ HW_ HBV
      go_wp2_with (refine step_storeG (fun _ => 0) HXZ.out info33 rfl rfl rfl rfl rfl ?_; intro wz hs hr; have HSz := Aside0.mk hs; have HRz := Aside0.mk hr; clear hs hr)
      refine bodyPost_ret (row_results2 rfl HRz.out rfl Try.underlying33 rfl info33) rfl ?_
      refine ⟨?_, HSz.out.bel _ _ (by omega) HBc1802.out⟩
      rw [rtR_no HB1.out, HB1.out]
      rfl
    · have HBV : Aside0 (decide (x1N iZ n * x1N iZ n % PP = n % PP) = true) := ⟨hb1⟩
      have HB1 := Aside0.mk hb1
      clear hb1
      have hh : Row wk.drew w.heap.size .i64 16 f 33 ∧ Row wk.drew (w.heap.size + 1) .i64 16 (fun _ => 0) 33 ∧ Row wk.drew n3 .i64 16 (x1R f n) 33 := ⟨HXA.out, HXZ.out, HX3.out⟩
      have HBq := Aside0.mk HBk.out.drew
      clear HXA HXZ HX3 HBk
      refine start_ (n := 6) (S := (fun w' => Row w' w.heap.size .i64 16 f 33 ∧ Row w' (w.heap.size + 1) .i64 16 (fun _ => 0) 33 ∧ Row w' n3 .i64 16 (x1R f n) 33)) (ds := []) #[false, false, false, false, false, false] (by kernel_rfl) rfl rfl hh (fun hHeld => ?_); refine with_tabW tab3305 bits3305 (fun HT_ HW_ => ?_)
      generalize wk.drew = wq at HBq hHeld hh ⊢
      clear hh
      refine take_ (i := 0) (N := some 21) (v := ?_) (a' := ?_) #[true, false, false, false, false, false] rfl rfl (take_ofW HT_.out HW_.out (by kernel_rfl)) (fun _ _ _ h => h) (Or.inl ⟨by rfl, ?_⟩) hHeld ?_ ?_
      rotate_left
      · intro w' hsw
        refine exec_load (x := .tmp 4) hsw.2.2 Try.underlying33 info33 rfl ?_ ?_ <;> rfl
      rotate_left
      · simp only [Act.put, List.setIfInBounds_toArray, List.set_cons_zero, List.set_cons_succ, i64_w, i32_w]
        rfl
      refine take_ (i := 1) (N := some 22) (v := ?_) (a' := ?_) #[true, true, false, false, false, false] rfl rfl (take_ofW HT_.out HW_.out (by kernel_rfl)) (fun _ _ _ h => h) (Or.inl ⟨by rfl, ?_⟩) hHeld ?_ ?_
      rotate_left
      · intro w' hsw
        refine exec_load (x := .tmp 4) hsw.2.2 Try.underlying33 info33 rfl ?_ ?_ <;> rfl
      rotate_left
      · simp only [Act.put, List.setIfInBounds_toArray, List.set_cons_zero, List.set_cons_succ, i64_w, i32_w]
        rfl
      refine take_ (i := 3) (N := some 24) (v := ?_) (a' := ?_) #[true, true, false, true, false, false] rfl rfl (take_ofW HT_.out HW_.out (by kernel_rfl)) (fun _ _ _ h => h) (Or.inl ⟨by rfl, ?_⟩) hHeld ?_ ?_
      rotate_left
      · intro w' hsw
        refine exec_load (x := .tmp 1) hsw.1 Try.underlying33 info33 rfl ?_ ?_ <;> rfl
      rotate_left
      · simp only [Act.put, List.setIfInBounds_toArray, List.set_cons_zero, List.set_cons_succ, i64_w, i32_w]
        rfl
      refine one_ (i := 2) (N := some 23) #[true, true, true, true, false, false] rfl rfl (one_of HT_.out (by kernel_rfl)) (by decide) (fun K hK => ?_)
      refine goes_ Try.func27 rfl rfl #[.agg (FR .i64 16 (x1R f n)), .agg (FR .i64 16 (x1R f n))] rfl rfl rfl (by simp only [List.map_toArray, List.map_cons, List.map_nil]; rfl) ((mulR_c _ _ _ (x1R_Re HF.out).1 (x1R_Re HF.out).1).mono ?_)
      rintro e wc1821 ⟨rfl, hb⟩
      have hSn : Row wc1821 w.heap.size .i64 16 f 33 ∧ Row wc1821 (w.heap.size + 1) .i64 16 (fun _ => 0) 33 ∧ Row wc1821 n3 .i64 16 (x1R f n) 33 := ⟨hHeld.1.below hb hHeld.1.lt, hHeld.2.1.below hb hHeld.2.1.lt, hHeld.2.2.below hb hHeld.2.2.lt⟩
      have HBc1821 := Aside0.mk (HBq.out.trans (hb.mono HBq.out.size))
      clear hb
      refine ⟨_, rfl, hK.out _ _ hSn (fun hHeld => ?_)⟩
      clear hSn
      clear hK K
      refine norm_ (a' := ?_) ?_ ?_
      rotate_left
      · show Act.put _ (some 23) _ = _
        simp only [Act.put, List.setIfInBounds_toArray, List.set_cons_zero, List.set_cons_succ, i64_w, i32_w]
        rfl
      refine one_ (i := 4) (N := some 25) #[true, true, true, true, true, false] rfl rfl (one_of HT_.out (by kernel_rfl)) (by decide) (fun K hK => ?_)
      refine goes_ Try.func44 rfl rfl #[.agg (FR .i64 16 (mulR (x1R f n) (x1R f n))), .agg (FR .i64 16 (f))] rfl rfl rfl (by simp only [List.map_toArray, List.map_cons, List.map_nil]; rfl) ((refIs_bool ((x1R_Re HF.out).mul (x1R_Re HF.out)) HF.out true HBV.out _).mono ?_)
      rintro e wc1822 ⟨rfl, hb⟩
      have hSn : Row wc1822 w.heap.size .i64 16 f 33 ∧ Row wc1822 (w.heap.size + 1) .i64 16 (fun _ => 0) 33 ∧ Row wc1822 n3 .i64 16 (x1R f n) 33 := ⟨hHeld.1.below hb hHeld.1.lt, hHeld.2.1.below hb hHeld.2.1.lt, hHeld.2.2.below hb hHeld.2.2.lt⟩
      have HBc1822 := Aside0.mk (HBc1821.out.trans (hb.mono HBc1821.out.size))
      clear hb
      refine ⟨_, rfl, hK.out _ _ hSn (fun hHeld => ?_)⟩
      clear hSn
      clear hK K
      refine norm_ (a' := ?_) ?_ ?_
      rotate_left
      · show Act.put _ (some 25) _ = _
        simp only [Act.put, List.setIfInBounds_toArray, List.set_cons_zero, List.set_cons_succ, i64_w, i32_w]
        rfl
      refine pure_ (i := 5) (N := some 26) (v := ?_) (a' := ?_) #[true, true, true, true, true, true] rfl rfl (any_of HT_.out (by kernel_rfl)) (fun _ _ _ h => h) (Or.inl ⟨by rfl, ?_⟩) ?_ ?_
      rotate_left
      · intro w'
        go_simp
        with_reducible rfl
      rotate_left
      · simp only [Act.put, List.setIfInBounds_toArray, List.set_cons_zero, List.set_cons_succ, i64_w, i32_w]
        rfl
      refine done_ (done_of HT_.out (by kernel_rfl)) ?_
      have HXA := Aside0.mk hHeld.1
      have HXZ := Aside0.mk hHeld.2.1
      have HX3 := Aside0.mk hHeld.2.2
      have hl3 := HX3.out.lt
      clear hHeld HT_ HW_ HBV
      go_wp2_with (refine step_load HX3.out Try.underlying33 info33 rfl rfl rfl rfl ?_)
      cases hod : rOdd iZ n
      · refine (refOdd_bool (x1R_Re HF.out) false hod _).mono ?_
        rintro e wo ⟨rfl, hb⟩
        have HXZ2 := Aside0.mk (HXZ.out.below hb HXZ.out.lt)
        have HX32 := Aside0.mk (HX3.out.below hb HX3.out.lt)
        have HBo := Aside0.mk (HBc1822.out.trans (hb.mono HBc1822.out.size))
        have HOD := Aside0.mk hod
        have hlz2 := HXZ2.out.lt
        clear hb hod
        go_wp2_with (first | refine step_load HX32.out Try.underlying33 info33 rfl rfl rfl rfl ?_ | (refine step_storeG (x1R f n) HXZ2.out info33 rfl rfl rfl rfl rfl ?_; intro wz hs hr; have HSz := Aside0.mk hs; have HRz := Aside0.mk hr; clear hs hr))
        refine bodyPost_ret (row_results2 rfl HRz.out rfl Try.underlying33 rfl info33) rfl ?_
        refine ⟨?_, HSz.out.bel _ _ (by omega) HBo.out⟩
        rw [rtR_n HB1.out HOD.out, HB1.out]
        rfl
      · refine (refOdd_bool (x1R_Re HF.out) true hod _).mono ?_
        rintro e wo ⟨rfl, hb⟩
        have HXZ2 := Aside0.mk (HXZ.out.below hb HXZ.out.lt)
        have HX32 := Aside0.mk (HX3.out.below hb HX3.out.lt)
        have HBo := Aside0.mk (HBc1822.out.trans (hb.mono HBc1822.out.size))
        have HOD := Aside0.mk hod
        have hlz2 := HXZ2.out.lt
        clear hb hod
        go_wp2_with (refine step_load HX32.out Try.underlying33 info33 rfl rfl rfl rfl ?_)
        refine (subR_c _ _ _ Re.zero.1 (x1R_Re HF.out).1).mono ?_
        rintro e wn ⟨rfl, hb⟩
        have HXZ3 := Aside0.mk (HXZ2.out.below hb HXZ2.out.lt)
        have HX33 := Aside0.mk (HX32.out.below hb HX32.out.lt)
        have HBn := Aside0.mk (HBo.out.trans (hb.mono HBo.out.size))
        clear hb
        go_wp2_with (first | (refine step_storeG (subR (fun _ => 0) (x1R f n)) HX33.out info33 rfl rfl rfl rfl rfl ?_; intro wy hs hr; have HBy := Aside0.mk (hs.bel _ _ (show w.heap.size ≤ n3 by omega) HBn.out); have HX34 := Aside0.mk hr; have HXZ4 := Aside0.mk (HXZ3.out.stored hs (by omega)); clear hs hr) | refine step_load HX34.out Try.underlying33 info33 rfl rfl rfl rfl ?_ | (refine step_storeG (subR (fun _ => 0) (x1R f n)) HXZ4.out info33 rfl rfl rfl rfl rfl ?_; intro wz hs hr; have HSz := Aside0.mk hs; have HRz := Aside0.mk hr; clear hs hr))
        refine bodyPost_ret (row_results2 rfl HRz.out rfl Try.underlying33 rfl info33) rfl ?_
        refine ⟨?_, HSz.out.bel _ _ (by omega) HBy.out⟩
        rw [rtR_y HB1.out HOD.out, HB1.out]
        rfl
  · have HBV : Aside0 (decide (x0N n * x0N n % PP = n % PP) = true) := ⟨hb0⟩
    have HB0 := Aside0.mk hb0
    have HX1 : Aside0 (x1R f n = x0R f) := ⟨x1R_y hb0⟩
    clear hb0
    have HY5 : Aside0 (Row ws514.drew n5 .i64 16 (mulR (x0R f) iR) 33) := ⟨HX5.out⟩
    have hh : Row ws514.drew w.heap.size .i64 16 f 33 ∧ Row ws514.drew (w.heap.size + 1) .i64 16 (fun _ => 0) 33 ∧ Row ws514.drew n3 .i64 16 (x0R f) 33 := ⟨HXA.out, HXZ.out, HX3.out⟩
    have HBq := Aside0.mk HBs514.out.drew
    clear HXA HXZ HX3 HBs514
    refine start_ (n := 6) (S := (fun w' => Row w' w.heap.size .i64 16 f 33 ∧ Row w' (w.heap.size + 1) .i64 16 (fun _ => 0) 33 ∧ Row w' n3 .i64 16 (x0R f) 33)) (ds := []) #[false, false, false, false, false, false] (by kernel_rfl) rfl rfl hh (fun hHeld => ?_); refine with_tabW tab3303 bits3303 (fun HT_ HW_ => ?_)
    generalize ws514.drew = wq at HBq hHeld hh HY5 ⊢
    clear hh
    refine take_ (i := 0) (N := some 14) (v := ?_) (a' := ?_) #[true, false, false, false, false, false] rfl rfl (take_ofW HT_.out HW_.out (by kernel_rfl)) (fun _ _ _ h => h) (Or.inl ⟨by rfl, ?_⟩) hHeld ?_ ?_
    rotate_left
    · intro w' hsw
      refine exec_load (x := .tmp 4) hsw.2.2 Try.underlying33 info33 rfl ?_ ?_ <;> rfl
    rotate_left
    · simp only [Act.put, List.setIfInBounds_toArray, List.set_cons_zero, List.set_cons_succ, i64_w, i32_w]
      rfl
    refine take_ (i := 1) (N := some 15) (v := ?_) (a' := ?_) #[true, true, false, false, false, false] rfl rfl (take_ofW HT_.out HW_.out (by kernel_rfl)) (fun _ _ _ h => h) (Or.inl ⟨by rfl, ?_⟩) hHeld ?_ ?_
    rotate_left
    · intro w' hsw
      refine exec_load (x := .tmp 4) hsw.2.2 Try.underlying33 info33 rfl ?_ ?_ <;> rfl
    rotate_left
    · simp only [Act.put, List.setIfInBounds_toArray, List.set_cons_zero, List.set_cons_succ, i64_w, i32_w]
      rfl
    refine take_ (i := 3) (N := some 17) (v := ?_) (a' := ?_) #[true, true, false, true, false, false] rfl rfl (take_ofW HT_.out HW_.out (by kernel_rfl)) (fun _ _ _ h => h) (Or.inl ⟨by rfl, ?_⟩) hHeld ?_ ?_
    rotate_left
    · intro w' hsw
      refine exec_load (x := .tmp 1) hsw.1 Try.underlying33 info33 rfl ?_ ?_ <;> rfl
    rotate_left
    · simp only [Act.put, List.setIfInBounds_toArray, List.set_cons_zero, List.set_cons_succ, i64_w, i32_w]
      rfl
    refine one_ (i := 2) (N := some 16) #[true, true, true, true, false, false] rfl rfl (one_of HT_.out (by kernel_rfl)) (by decide) (fun K hK => ?_)
    refine goes_ Try.func27 rfl rfl #[.agg (FR .i64 16 (x0R f)), .agg (FR .i64 16 (x0R f))] rfl rfl rfl (by simp only [List.map_toArray, List.map_cons, List.map_nil]; rfl) ((mulR_c _ _ _ (x0R_Re HF.out).1 (x0R_Re HF.out).1).mono ?_)
    rintro e wc1001 ⟨rfl, hb⟩
    have hSn : Row wc1001 w.heap.size .i64 16 f 33 ∧ Row wc1001 (w.heap.size + 1) .i64 16 (fun _ => 0) 33 ∧ Row wc1001 n3 .i64 16 (x0R f) 33 := ⟨hHeld.1.below hb hHeld.1.lt, hHeld.2.1.below hb hHeld.2.1.lt, hHeld.2.2.below hb hHeld.2.2.lt⟩
    have HBc1001 := Aside0.mk (HBq.out.trans (hb.mono HBq.out.size))
    have HY5 := Aside0.mk (HY5.out.below hb HY5.out.lt)
    clear hb
    refine ⟨_, rfl, hK.out _ _ hSn (fun hHeld => ?_)⟩
    clear hSn
    clear hK K
    refine norm_ (a' := ?_) ?_ ?_
    rotate_left
    · show Act.put _ (some 16) _ = _
      simp only [Act.put, List.setIfInBounds_toArray, List.set_cons_zero, List.set_cons_succ, i64_w, i32_w]
      rfl
    refine one_ (i := 4) (N := some 18) #[true, true, true, true, true, false] rfl rfl (one_of HT_.out (by kernel_rfl)) (by decide) (fun K hK => ?_)
    refine goes_ Try.func44 rfl rfl #[.agg (FR .i64 16 (mulR (x0R f) (x0R f))), .agg (FR .i64 16 (f))] rfl rfl rfl (by simp only [List.map_toArray, List.map_cons, List.map_nil]; rfl) ((refIs_bool ((x0R_Re HF.out).mul (x0R_Re HF.out)) HF.out true HBV.out _).mono ?_)
    rintro e wc1002 ⟨rfl, hb⟩
    have hSn : Row wc1002 w.heap.size .i64 16 f 33 ∧ Row wc1002 (w.heap.size + 1) .i64 16 (fun _ => 0) 33 ∧ Row wc1002 n3 .i64 16 (x0R f) 33 := ⟨hHeld.1.below hb hHeld.1.lt, hHeld.2.1.below hb hHeld.2.1.lt, hHeld.2.2.below hb hHeld.2.2.lt⟩
    have HBc1002 := Aside0.mk (HBc1001.out.trans (hb.mono HBc1001.out.size))
    have HY5 := Aside0.mk (HY5.out.below hb HY5.out.lt)
    clear hb
    refine ⟨_, rfl, hK.out _ _ hSn (fun hHeld => ?_)⟩
    clear hSn
    clear hK K
    refine norm_ (a' := ?_) ?_ ?_
    rotate_left
    · show Act.put _ (some 18) _ = _
      simp only [Act.put, List.setIfInBounds_toArray, List.set_cons_zero, List.set_cons_succ, i64_w, i32_w]
      rfl
    refine pure_ (i := 5) (N := some 19) (v := ?_) (a' := ?_) #[true, true, true, true, true, true] rfl rfl (any_of HT_.out (by kernel_rfl)) (fun _ _ _ h => h) (Or.inl ⟨by rfl, ?_⟩) ?_ ?_
    rotate_left
    · intro w'
      go_simp
      with_reducible rfl
    rotate_left
    · simp only [Act.put, List.setIfInBounds_toArray, List.set_cons_zero, List.set_cons_succ, i64_w, i32_w]
      rfl
    refine done_ (done_of HT_.out (by kernel_rfl)) ?_
    have HXA := Aside0.mk hHeld.1
    have HXZ := Aside0.mk hHeld.2.1
    have HX3 := Aside0.mk hHeld.2.2
    have hl3 := HX3.out.lt
    clear hHeld HT_ HW_ HBV
    have HX3 : Aside0 (Row wc1002 n3 .i64 16 (x1R f n) 33) := ⟨by rw [HX1.out]; exact HX3.out⟩
    go_wp2_with fail
    cases hb1 : rOk iZ n
    · have HBV : Aside0 (decide (x1N iZ n * x1N iZ n % PP = n % PP) = false) := ⟨hb1⟩
      have HB1 := Aside0.mk hb1
      clear hb1
      have hh : Row wc1002.drew w.heap.size .i64 16 f 33 ∧ Row wc1002.drew (w.heap.size + 1) .i64 16 (fun _ => 0) 33 ∧ Row wc1002.drew n3 .i64 16 (x1R f n) 33 := ⟨HXA.out, HXZ.out, HX3.out⟩
      have HBq := Aside0.mk HBc1002.out.drew
      clear HXA HXZ HX3 HBc1002
      refine start_ (n := 6) (S := (fun w' => Row w' w.heap.size .i64 16 f 33 ∧ Row w' (w.heap.size + 1) .i64 16 (fun _ => 0) 33 ∧ Row w' n3 .i64 16 (x1R f n) 33)) (ds := []) #[false, false, false, false, false, false] (by kernel_rfl) rfl rfl hh (fun hHeld => ?_); refine with_tabW tab3305 bits3305 (fun HT_ HW_ => ?_)
      generalize wc1002.drew = wq at HBq hHeld hh ⊢
      clear hh
      refine take_ (i := 0) (N := some 21) (v := ?_) (a' := ?_) #[true, false, false, false, false, false] rfl rfl (take_ofW HT_.out HW_.out (by kernel_rfl)) (fun _ _ _ h => h) (Or.inl ⟨by rfl, ?_⟩) hHeld ?_ ?_
      rotate_left
      · intro w' hsw
        refine exec_load (x := .tmp 4) hsw.2.2 Try.underlying33 info33 rfl ?_ ?_ <;> rfl
      rotate_left
      · simp only [Act.put, List.setIfInBounds_toArray, List.set_cons_zero, List.set_cons_succ, i64_w, i32_w]
        rfl
      refine take_ (i := 1) (N := some 22) (v := ?_) (a' := ?_) #[true, true, false, false, false, false] rfl rfl (take_ofW HT_.out HW_.out (by kernel_rfl)) (fun _ _ _ h => h) (Or.inl ⟨by rfl, ?_⟩) hHeld ?_ ?_
      rotate_left
      · intro w' hsw
        refine exec_load (x := .tmp 4) hsw.2.2 Try.underlying33 info33 rfl ?_ ?_ <;> rfl
      rotate_left
      · simp only [Act.put, List.setIfInBounds_toArray, List.set_cons_zero, List.set_cons_succ, i64_w, i32_w]
        rfl
      refine take_ (i := 3) (N := some 24) (v := ?_) (a' := ?_) #[true, true, false, true, false, false] rfl rfl (take_ofW HT_.out HW_.out (by kernel_rfl)) (fun _ _ _ h => h) (Or.inl ⟨by rfl, ?_⟩) hHeld ?_ ?_
      rotate_left
      · intro w' hsw
        refine exec_load (x := .tmp 1) hsw.1 Try.underlying33 info33 rfl ?_ ?_ <;> rfl
      rotate_left
      · simp only [Act.put, List.setIfInBounds_toArray, List.set_cons_zero, List.set_cons_succ, i64_w, i32_w]
        rfl
      refine one_ (i := 2) (N := some 23) #[true, true, true, true, false, false] rfl rfl (one_of HT_.out (by kernel_rfl)) (by decide) (fun K hK => ?_)
      refine goes_ Try.func27 rfl rfl #[.agg (FR .i64 16 (x1R f n)), .agg (FR .i64 16 (x1R f n))] rfl rfl rfl (by simp only [List.map_toArray, List.map_cons, List.map_nil]; rfl) ((mulR_c _ _ _ (x1R_Re HF.out).1 (x1R_Re HF.out).1).mono ?_)
      rintro e wc1401 ⟨rfl, hb⟩
      have hSn : Row wc1401 w.heap.size .i64 16 f 33 ∧ Row wc1401 (w.heap.size + 1) .i64 16 (fun _ => 0) 33 ∧ Row wc1401 n3 .i64 16 (x1R f n) 33 := ⟨hHeld.1.below hb hHeld.1.lt, hHeld.2.1.below hb hHeld.2.1.lt, hHeld.2.2.below hb hHeld.2.2.lt⟩
      have HBc1401 := Aside0.mk (HBq.out.trans (hb.mono HBq.out.size))
      clear hb
      refine ⟨_, rfl, hK.out _ _ hSn (fun hHeld => ?_)⟩
      clear hSn
      clear hK K
      refine norm_ (a' := ?_) ?_ ?_
      rotate_left
      · show Act.put _ (some 23) _ = _
        simp only [Act.put, List.setIfInBounds_toArray, List.set_cons_zero, List.set_cons_succ, i64_w, i32_w]
        rfl
      refine one_ (i := 4) (N := some 25) #[true, true, true, true, true, false] rfl rfl (one_of HT_.out (by kernel_rfl)) (by decide) (fun K hK => ?_)
      refine goes_ Try.func44 rfl rfl #[.agg (FR .i64 16 (mulR (x1R f n) (x1R f n))), .agg (FR .i64 16 (f))] rfl rfl rfl (by simp only [List.map_toArray, List.map_cons, List.map_nil]; rfl) ((refIs_bool ((x1R_Re HF.out).mul (x1R_Re HF.out)) HF.out false HBV.out _).mono ?_)
      rintro e wc1402 ⟨rfl, hb⟩
      have hSn : Row wc1402 w.heap.size .i64 16 f 33 ∧ Row wc1402 (w.heap.size + 1) .i64 16 (fun _ => 0) 33 ∧ Row wc1402 n3 .i64 16 (x1R f n) 33 := ⟨hHeld.1.below hb hHeld.1.lt, hHeld.2.1.below hb hHeld.2.1.lt, hHeld.2.2.below hb hHeld.2.2.lt⟩
      have HBc1402 := Aside0.mk (HBc1401.out.trans (hb.mono HBc1401.out.size))
      clear hb
      refine ⟨_, rfl, hK.out _ _ hSn (fun hHeld => ?_)⟩
      clear hSn
      clear hK K
      refine norm_ (a' := ?_) ?_ ?_
      rotate_left
      · show Act.put _ (some 25) _ = _
        simp only [Act.put, List.setIfInBounds_toArray, List.set_cons_zero, List.set_cons_succ, i64_w, i32_w]
        rfl
      refine pure_ (i := 5) (N := some 26) (v := ?_) (a' := ?_) #[true, true, true, true, true, true] rfl rfl (any_of HT_.out (by kernel_rfl)) (fun _ _ _ h => h) (Or.inl ⟨by rfl, ?_⟩) ?_ ?_
      rotate_left
      · intro w'
        go_simp
        with_reducible rfl
      rotate_left
      · simp only [Act.put, List.setIfInBounds_toArray, List.set_cons_zero, List.set_cons_succ, i64_w, i32_w]
        rfl
      refine done_ (done_of HT_.out (by kernel_rfl)) ?_
      have HXA := Aside0.mk hHeld.1
      have HXZ := Aside0.mk hHeld.2.1
      have HX3 := Aside0.mk hHeld.2.2
      have hl3 := HX3.out.lt
      clear hHeld HT_ HW_ HBV
      go_wp2_with (refine step_storeG (fun _ => 0) HXZ.out info33 rfl rfl rfl rfl rfl ?_; intro wz hs hr; have HSz := Aside0.mk hs; have HRz := Aside0.mk hr; clear hs hr)
      refine bodyPost_ret (row_results2 rfl HRz.out rfl Try.underlying33 rfl info33) rfl ?_
      refine ⟨?_, HSz.out.bel _ _ (by omega) HBc1402.out⟩
      rw [rtR_no HB1.out, HB1.out]
      rfl
    · have HBV : Aside0 (decide (x1N iZ n * x1N iZ n % PP = n % PP) = true) := ⟨hb1⟩
      have HB1 := Aside0.mk hb1
      clear hb1
      have hh : Row wc1002.drew w.heap.size .i64 16 f 33 ∧ Row wc1002.drew (w.heap.size + 1) .i64 16 (fun _ => 0) 33 ∧ Row wc1002.drew n3 .i64 16 (x1R f n) 33 := ⟨HXA.out, HXZ.out, HX3.out⟩
      have HBq := Aside0.mk HBc1002.out.drew
      clear HXA HXZ HX3 HBc1002
      refine start_ (n := 6) (S := (fun w' => Row w' w.heap.size .i64 16 f 33 ∧ Row w' (w.heap.size + 1) .i64 16 (fun _ => 0) 33 ∧ Row w' n3 .i64 16 (x1R f n) 33)) (ds := []) #[false, false, false, false, false, false] (by kernel_rfl) rfl rfl hh (fun hHeld => ?_); refine with_tabW tab3305 bits3305 (fun HT_ HW_ => ?_)
      generalize wc1002.drew = wq at HBq hHeld hh ⊢
      clear hh
      refine take_ (i := 0) (N := some 21) (v := ?_) (a' := ?_) #[true, false, false, false, false, false] rfl rfl (take_ofW HT_.out HW_.out (by kernel_rfl)) (fun _ _ _ h => h) (Or.inl ⟨by rfl, ?_⟩) hHeld ?_ ?_
      rotate_left
      · intro w' hsw
        refine exec_load (x := .tmp 4) hsw.2.2 Try.underlying33 info33 rfl ?_ ?_ <;> rfl
      rotate_left
      · simp only [Act.put, List.setIfInBounds_toArray, List.set_cons_zero, List.set_cons_succ, i64_w, i32_w]
        rfl
      refine take_ (i := 1) (N := some 22) (v := ?_) (a' := ?_) #[true, true, false, false, false, false] rfl rfl (take_ofW HT_.out HW_.out (by kernel_rfl)) (fun _ _ _ h => h) (Or.inl ⟨by rfl, ?_⟩) hHeld ?_ ?_
      rotate_left
      · intro w' hsw
        refine exec_load (x := .tmp 4) hsw.2.2 Try.underlying33 info33 rfl ?_ ?_ <;> rfl
      rotate_left
      · simp only [Act.put, List.setIfInBounds_toArray, List.set_cons_zero, List.set_cons_succ, i64_w, i32_w]
        rfl
      refine take_ (i := 3) (N := some 24) (v := ?_) (a' := ?_) #[true, true, false, true, false, false] rfl rfl (take_ofW HT_.out HW_.out (by kernel_rfl)) (fun _ _ _ h => h) (Or.inl ⟨by rfl, ?_⟩) hHeld ?_ ?_
      rotate_left
      · intro w' hsw
        refine exec_load (x := .tmp 1) hsw.1 Try.underlying33 info33 rfl ?_ ?_ <;> rfl
      rotate_left
      · simp only [Act.put, List.setIfInBounds_toArray, List.set_cons_zero, List.set_cons_succ, i64_w, i32_w]
        rfl
      refine one_ (i := 2) (N := some 23) #[true, true, true, true, false, false] rfl rfl (one_of HT_.out (by kernel_rfl)) (by decide) (fun K hK => ?_)
      refine goes_ Try.func27 rfl rfl #[.agg (FR .i64 16 (x1R f n)), .agg (FR .i64 16 (x1R f n))] rfl rfl rfl (by simp only [List.map_toArray, List.map_cons, List.map_nil]; rfl) ((mulR_c _ _ _ (x1R_Re HF.out).1 (x1R_Re HF.out).1).mono ?_)
      rintro e wc1421 ⟨rfl, hb⟩
      have hSn : Row wc1421 w.heap.size .i64 16 f 33 ∧ Row wc1421 (w.heap.size + 1) .i64 16 (fun _ => 0) 33 ∧ Row wc1421 n3 .i64 16 (x1R f n) 33 := ⟨hHeld.1.below hb hHeld.1.lt, hHeld.2.1.below hb hHeld.2.1.lt, hHeld.2.2.below hb hHeld.2.2.lt⟩
      have HBc1421 := Aside0.mk (HBq.out.trans (hb.mono HBq.out.size))
      clear hb
      refine ⟨_, rfl, hK.out _ _ hSn (fun hHeld => ?_)⟩
      clear hSn
      clear hK K
      refine norm_ (a' := ?_) ?_ ?_
      rotate_left
      · show Act.put _ (some 23) _ = _
        simp only [Act.put, List.setIfInBounds_toArray, List.set_cons_zero, List.set_cons_succ, i64_w, i32_w]
        rfl
      refine one_ (i := 4) (N := some 25) #[true, true, true, true, true, false] rfl rfl (one_of HT_.out (by kernel_rfl)) (by decide) (fun K hK => ?_)
      refine goes_ Try.func44 rfl rfl #[.agg (FR .i64 16 (mulR (x1R f n) (x1R f n))), .agg (FR .i64 16 (f))] rfl rfl rfl (by simp only [List.map_toArray, List.map_cons, List.map_nil]; rfl) ((refIs_bool ((x1R_Re HF.out).mul (x1R_Re HF.out)) HF.out true HBV.out _).mono ?_)
      rintro e wc1422 ⟨rfl, hb⟩
      have hSn : Row wc1422 w.heap.size .i64 16 f 33 ∧ Row wc1422 (w.heap.size + 1) .i64 16 (fun _ => 0) 33 ∧ Row wc1422 n3 .i64 16 (x1R f n) 33 := ⟨hHeld.1.below hb hHeld.1.lt, hHeld.2.1.below hb hHeld.2.1.lt, hHeld.2.2.below hb hHeld.2.2.lt⟩
      have HBc1422 := Aside0.mk (HBc1421.out.trans (hb.mono HBc1421.out.size))
      clear hb
      refine ⟨_, rfl, hK.out _ _ hSn (fun hHeld => ?_)⟩
      clear hSn
      clear hK K
      refine norm_ (a' := ?_) ?_ ?_
      rotate_left
      · show Act.put _ (some 25) _ = _
        simp only [Act.put, List.setIfInBounds_toArray, List.set_cons_zero, List.set_cons_succ, i64_w, i32_w]
        rfl
      refine pure_ (i := 5) (N := some 26) (v := ?_) (a' := ?_) #[true, true, true, true, true, true] rfl rfl (any_of HT_.out (by kernel_rfl)) (fun _ _ _ h => h) (Or.inl ⟨by rfl, ?_⟩) ?_ ?_
      rotate_left
      · intro w'
        go_simp
        with_reducible rfl
      rotate_left
      · simp only [Act.put, List.setIfInBounds_toArray, List.set_cons_zero, List.set_cons_succ, i64_w, i32_w]
        rfl
      refine done_ (done_of HT_.out (by kernel_rfl)) ?_
      have HXA := Aside0.mk hHeld.1
      have HXZ := Aside0.mk hHeld.2.1
      have HX3 := Aside0.mk hHeld.2.2
      have hl3 := HX3.out.lt
      clear hHeld HT_ HW_ HBV
      go_wp2_with (refine step_load HX3.out Try.underlying33 info33 rfl rfl rfl rfl ?_)
      cases hod : rOdd iZ n
      · refine (refOdd_bool (x1R_Re HF.out) false hod _).mono ?_
        rintro e wo ⟨rfl, hb⟩
        have HXZ2 := Aside0.mk (HXZ.out.below hb HXZ.out.lt)
        have HX32 := Aside0.mk (HX3.out.below hb HX3.out.lt)
        have HBo := Aside0.mk (HBc1422.out.trans (hb.mono HBc1422.out.size))
        have HOD := Aside0.mk hod
        have hlz2 := HXZ2.out.lt
        clear hb hod
        go_wp2_with (first | refine step_load HX32.out Try.underlying33 info33 rfl rfl rfl rfl ?_ | (refine step_storeG (x1R f n) HXZ2.out info33 rfl rfl rfl rfl rfl ?_; intro wz hs hr; have HSz := Aside0.mk hs; have HRz := Aside0.mk hr; clear hs hr))
        refine bodyPost_ret (row_results2 rfl HRz.out rfl Try.underlying33 rfl info33) rfl ?_
        refine ⟨?_, HSz.out.bel _ _ (by omega) HBo.out⟩
        rw [rtR_n HB1.out HOD.out, HB1.out]
        rfl
      · refine (refOdd_bool (x1R_Re HF.out) true hod _).mono ?_
        rintro e wo ⟨rfl, hb⟩
        have HXZ2 := Aside0.mk (HXZ.out.below hb HXZ.out.lt)
        have HX32 := Aside0.mk (HX3.out.below hb HX3.out.lt)
        have HBo := Aside0.mk (HBc1422.out.trans (hb.mono HBc1422.out.size))
        have HOD := Aside0.mk hod
        have hlz2 := HXZ2.out.lt
        clear hb hod
        go_wp2_with (refine step_load HX32.out Try.underlying33 info33 rfl rfl rfl rfl ?_)
        refine (subR_c _ _ _ Re.zero.1 (x1R_Re HF.out).1).mono ?_
        rintro e wn ⟨rfl, hb⟩
        have HXZ3 := Aside0.mk (HXZ2.out.below hb HXZ2.out.lt)
        have HX33 := Aside0.mk (HX32.out.below hb HX32.out.lt)
        have HBn := Aside0.mk (HBo.out.trans (hb.mono HBo.out.size))
        clear hb
        go_wp2_with (first | (refine step_storeG (subR (fun _ => 0) (x1R f n)) HX33.out info33 rfl rfl rfl rfl rfl ?_; intro wy hs hr; have HBy := Aside0.mk (hs.bel _ _ (show w.heap.size ≤ n3 by omega) HBn.out); have HX34 := Aside0.mk hr; have HXZ4 := Aside0.mk (HXZ3.out.stored hs (by omega)); clear hs hr) | refine step_load HX34.out Try.underlying33 info33 rfl rfl rfl rfl ?_ | (refine step_storeG (subR (fun _ => 0) (x1R f n)) HXZ4.out info33 rfl rfl rfl rfl rfl ?_; intro wz hs hr; have HSz := Aside0.mk hs; have HRz := Aside0.mk hr; clear hs hr))
        refine bodyPost_ret (row_results2 rfl HRz.out rfl Try.underlying33 rfl info33) rfl ?_
        refine ⟨?_, HSz.out.bel _ _ (by omega) HBy.out⟩
        rw [rtR_y HB1.out HOD.out, HB1.out]
        rfl
end Go.Proofs.Ythonoagpiofojaa.P
