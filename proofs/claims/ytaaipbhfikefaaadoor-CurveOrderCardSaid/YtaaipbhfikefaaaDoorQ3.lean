/- Merged of the texts: Iv, Ca, Cb, Cc, Cd, Ce, Cf, Cg, Ch (trim.py). -/
import Derived.Lib.ConvBytes
import Derived.Test.YtaaipbhfikefaaaDoorQ2
section
namespace Go.Proofs.YtaaipbhfikefaaaDoor.P
set_option linter.unusedVariables false
set_option linter.unusedSimpArgs false
open Go.RowKit Go.ChangeShapes Go.WideShapes Go.Proofs.YtaaipbhfikefaaaDoorW.PrintWords Go.Proofs.YtaaipbhfikefaaaDoorW.PrintLast Go.Proofs.YtaaipbhfikefaaaDoorW.PrintMore
/-- A row that the function holds: its block is known ahead of the region, or made in it (born); it may be stored to in it. -/
structure Ent where
  g : Nat
  born : Option Nat
  stored : Option Nat
  k : IntKind
  n : Nat
  f0 : Nat → Int
  f1 : Nat → Int
  t : TypeId
def Ent.ad (x : Ent) (G : Nat → Nat) : Nat := match x.born with
  | none => x.g
  | some i => G i
/-- What a slot comes to hold: a value, or a place in the block that operation i makes. -/
inductive SV where
  | val (v : Value)
  | new (i : Nat) (mk : Nat → Value)
def SV.ptr (i off : Nat) : SV := .new i fun g => .pointer (some ⟨g, off, none⟩)
def SV.at (G : Nat → Nat) : SV → Value
  | .val v => v
  | .new i mk => mk (G i)
def SV.of (i : Nat) : SV → Bool
  | .val _ => false
  | .new j _ => j == i
def vals (G : Nat → Nat) (L : List (Nat × Tmp × SV)) : List (Nat × Tmp × Value) := L.map fun e => (e.1, e.2.1, e.2.2.at G)
structure RowD where
  g : Nat
  k : IntKind
  n : Nat
  f : Nat → Int
  t : TypeId
/-- The rows of a function that was entered at wE. -/
def Held (wE w : World) (R : List RowD) : Prop := Below wE.heap.size wE w ∧ (∀ r ∈ R, wE.heap.size ≤ r.g ∧ Row w r.g r.k r.n r.f r.t) ∧ (R.map RowD.g).Nodup
def isOn (b : Nat → Bool) (d : Bool) : Option Nat → Bool
  | none => d
  | some i => b i
def Ent.f (x : Ent) (b : Nat → Bool) : Nat → Int := if isOn b false x.stored = true then x.f1 else x.f0
def RI (wE : World) (a0 : Act) (L : List (Nat × Tmp × SV)) (A : List Ent) (b : Nat → Bool) (a : Act) (w : World) : Prop :=
  ∃ G : Nat → Nat, a = putSel a0 b (vals G L) ∧ Below wE.heap.size wE w ∧ (∀ x ∈ A, isOn b true x.born = true → wE.heap.size ≤ x.ad G ∧ Row w (x.ad G) x.k x.n (x.f b) x.t) ∧
    A.Pairwise (fun x y => isOn b true x.born = true → isOn b true y.born = true → x.ad G ≠ y.ad G)
section
variable {P : Program} {ops : Array Oper} {Q : Exit → Act → World → Prop} {B O : List Nat} {wE : World} {a0 : Act} {L : List (Nat × Tmp × SV)} {A : List Ent} {i : Nat}
/-- What operation i waits for has come up. -/
def Ons (B O : List Nat) (i : Nat) (b : Nat → Bool) : Prop := ∀ j, (O.contains j && (B.getD i 0).testBit j) = true → b j = true
def Offs (B O : List Nat) (i : Nat) (b : Nat → Bool) : Prop := ∀ d, (O.contains d && (B.getD d 0).testBit i) = true → b d = false
theorem isOn_up {b : Nat → Bool} {d : Bool} {i : Nat} {o : Option Nat} (h : (o == some i) = false) : isOn (up b i) d o = isOn b d o := by
  cases o with
  | none => rfl
  | some j =>
    have hj : j ≠ i := fun e => by subst e; simp at h
    exact up_ne hj
/-- Each slot, and each operation, stands in L once. -/
def LOk (L : List (Nat × Tmp × SV)) : Prop := (L.map fun e => e.1).Nodup ∧ (L.map fun e => e.2.1).Nodup
theorem vals_get {G : Nat → Nat} {k : Nat} {e : Nat × Tmp × SV} (h : L[k]? = some e) : (vals G L)[k]? = some (e.1, e.2.1, e.2.2.at G) := by
  unfold vals
  rw [List.getElem?_map, h]; rfl
theorem LOk.drop {d : Nat} {t : Tmp} {v : SV} {k : Nat} (h : LOk L) (hL : L[k]? = some (d, t, v)) (G : Nat → Nat) : (((vals G L).drop (k + 1)).all fun x => !(x.2.1 == t)) = true := by
  rw [List.all_eq_true]
  intro e he
  obtain ⟨m, hm⟩ := List.getElem?_of_mem he
  rw [List.getElem?_drop] at hm
  unfold vals at hm
  rw [List.getElem?_map] at hm
  cases h2 : L[k + 1 + m]? with
  | none => rw [h2] at hm; cases hm
  | some e2 =>
    rw [h2] at hm
    obtain rfl := Option.some.inj hm
    have h3 := h.2
    rw [List.nodup_iff_pairwise_ne, List.pairwise_iff_getElem] at h3
    obtain ⟨hk, hke⟩ := List.getElem?_eq_some_iff.1 hL
    obtain ⟨hl, hle⟩ := List.getElem?_eq_some_iff.1 h2
    have := h3 k (k + 1 + m) (by simpa using hk) (by simpa using hl) (by omega)
    simp only [List.getElem_map, hke, hle] at this
    simpa using fun e => this e.symm
theorem LOk.rest {N : Tmp} {v : SV} {k : Nat} (h : LOk L) (hL : L[k]? = some (i, N, v)) (G : Nat → Nat) : (((vals G L).take k ++ (vals G L).drop (k + 1)).all fun e => !(e.1 == i) && !(e.2.1 == N)) = true := by
  rw [List.all_eq_true]
  intro e he
  obtain ⟨hk, hke⟩ := List.getElem?_eq_some_iff.1 hL
  have key : ∃ j, j ≠ k ∧ (vals G L)[j]? = some e := by
    rw [List.mem_append] at he
    rcases he with he | he
    · obtain ⟨m, hm⟩ := List.getElem?_of_mem he
      have hlt : m < k := by
        apply Decidable.byContradiction
        intro hn
        rw [List.getElem?_eq_none (by simp; omega)] at hm; cases hm
      exact ⟨m, by omega, by rw [List.getElem?_take_of_lt hlt] at hm; exact hm⟩
    · obtain ⟨m, hm⟩ := List.getElem?_of_mem he
      rw [List.getElem?_drop] at hm
      exact ⟨k + 1 + m, by omega, hm⟩
  obtain ⟨j, hj, hje⟩ := key
  unfold vals at hje
  rw [List.getElem?_map] at hje
  cases h2 : L[j]? with
  | none => rw [h2] at hje; cases hje
  | some e2 =>
    rw [h2] at hje
    obtain rfl := Option.some.inj hje
    obtain ⟨hl, hle⟩ := List.getElem?_eq_some_iff.1 h2
    have h3 := h.1
    have h4 := h.2
    rw [List.nodup_iff_pairwise_ne, List.pairwise_iff_getElem] at h3 h4
    have a1 : e2.1 ≠ i := by
      rcases Nat.lt_or_ge j k with hlt | hge
      · have := h3 j k (by simpa using hl) (by simpa using hk) hlt
        simpa only [List.getElem_map, hke, hle] using this
      · have := h3 k j (by simpa using hk) (by simpa using hl) (by omega)
        simp only [List.getElem_map, hke, hle] at this
        exact fun e => this e.symm
    have a2 : e2.2.1 ≠ N := by
      rcases Nat.lt_or_ge j k with hlt | hge
      · have := h4 j k (by simpa using hl) (by simpa using hk) hlt
        simpa only [List.getElem_map, hke, hle] using this
      · have := h4 k j (by simpa using hk) (by simpa using hl) (by omega)
        simp only [List.getElem_map, hke, hle] at this
        exact fun e => this e.symm
    simp [a1, a2]
theorem vals_setG {G : Nat → Nat} {N : Tmp} {k g : Nat} {mk : Nat → Value} (h : ((L.take k ++ L.drop (k + 1)).all fun e => !e.2.2.of i) = true) (hL : L[k]? = some (i, N, .new i mk)) : vals (fun j => if j = i then g else G j) L = (vals G L).set k (i, N, mk g) := by
  obtain ⟨hk, hke⟩ := List.getElem?_eq_some_iff.1 hL
  apply List.ext_getElem?
  intro j
  by_cases hj : j = k
  · subst hj
    rw [List.getElem?_set_self (by unfold vals; simpa using hk), vals_get hL]
    simp [SV.at]
  · rw [List.getElem?_set_ne (Ne.symm hj)]
    unfold vals
    rw [List.getElem?_map, List.getElem?_map]
    cases h2 : L[j]? with
    | none => rfl
    | some e =>
      have hm : e ∈ L.take k ++ L.drop (k + 1) := by
        rw [List.mem_append]
        by_cases hlt : j < k
        · left; exact List.mem_of_getElem? (i := j) (by rw [List.getElem?_take_of_lt hlt]; exact h2)
        · right; exact List.mem_of_getElem? (i := j - (k + 1)) (by rw [List.getElem?_drop]; rw [show k + 1 + (j - (k + 1)) = j by omega]; exact h2)
      have h3 := List.all_eq_true.1 h e hm
      obtain ⟨e1, e2, e3⟩ := e
      cases e3 with
      | val v => rfl
      | new p off =>
        simp only [SV.of, Bool.not_eq_true', beq_eq_false_iff_ne] at h3
        simp [SV.at, h3]
theorem ev_on {b : Nat → Bool} {G : Nat → Nat} {d : Nat} {t : Tmp} {v : SV} (hLo : LOk L) (k : Nat) (hL : L[k]? = some (d, t, v)) {sz : Nat} (hsz : a0.tmps.size = sz) (hs : Nat.ble (t + 1) sz = true) (hb : b d = true) : (putSel a0 b (vals G L)).eval (.tmp t) = v.at G := by
  subst hsz
  have h := putSel_on (a := a0) (b := b) (e := (d, t, v.at G)) k (vals_get hL) (hLo.drop hL G) hb hs
  show (putSel a0 b (vals G L)).tmps.getD t undef = v.at G
  rw [Array.getD_eq_getD_getElem?, h]
  rfl
theorem ev_off {b : Nat → Bool} {G : Nat → Nat} {t : Tmp} {v : Value} (h : (L.all fun e => !(e.2.1 == t)) = true) (hv : a0.eval (.tmp t) = v) : (putSel a0 b (vals G L)).eval (.tmp t) = v := by
  show (putSel a0 b (vals G L)).tmps.getD t undef = v
  rw [Array.getD_eq_getD_getElem?, putSel_off (by unfold vals; rw [List.all_map]; exact h), ← Array.getD_eq_getD_getElem?]
  exact hv
/-- A slot that an operation fills which hasn't come up yet. -/
theorem putSel_pre {b : Nat → Bool} {t : Tmp} : ∀ {M : List (Nat × Tmp × Value)} {a : Act}, (∀ e ∈ M, e.2.1 = t → b e.1 = false) → (putSel a b M).tmps[t]? = a.tmps[t]?
  | [], _, _ => rfl
  | e :: r, a, h => by
    unfold putSel
    by_cases hb : b e.1 = true
    · have he : e.2.1 ≠ t := fun h2 => by have := h e List.mem_cons_self h2; rw [hb] at this; cases this
      rw [if_pos hb, putSel_pre (fun x hx => h x (List.mem_cons_of_mem _ hx))]
      simp [Act.put, Array.getElem?_setIfInBounds_ne he]
    · rw [if_neg hb]
      exact putSel_pre (fun x hx => h x (List.mem_cons_of_mem _ hx))
theorem ev_pre {b : Nat → Bool} {G : Nat → Nat} {d : Nat} {t : Tmp} {sv : SV} {v : Value} (hLo : LOk L) (k : Nat) (hL : L[k]? = some (d, t, sv)) (hb : b d = false) (hv : a0.eval (.tmp t) = v) : (putSel a0 b (vals G L)).eval (.tmp t) = v := by
  show (putSel a0 b (vals G L)).tmps.getD t undef = v
  rw [Array.getD_eq_getD_getElem?, putSel_pre (fun e he h2 => ?_), ← Array.getD_eq_getD_getElem?]
  · exact hv
  · unfold vals at he
    obtain ⟨e2, he2, rfl⟩ := List.mem_map.1 he
    obtain ⟨j, hj⟩ := List.getElem?_of_mem he2
    obtain ⟨hk, hke⟩ := List.getElem?_eq_some_iff.1 hL
    obtain ⟨hl, hle⟩ := List.getElem?_eq_some_iff.1 hj
    have h4 := hLo.2
    rw [List.nodup_iff_pairwise_ne, List.pairwise_iff_getElem] at h4
    have : j = k := by
      apply Decidable.byContradiction
      intro hne
      rcases Nat.lt_or_ge j k with hlt | hge
      · have := h4 j k (by simpa using hl) (by simpa using hk) hlt
        simp only [List.getElem_map, hke, hle] at this
        exact this h2
      · have := h4 k j (by simpa using hk) (by simpa using hl) (by omega)
        simp only [List.getElem_map, hke, hle] at this
        exact this h2.symm
    subst this
    rw [hL] at hj
    obtain rfl := Option.some.inj hj
    exact hb
/-- An operation that fills its slot with a value that is known, and turns nothing that is held (it may make blocks). -/
theorem st_keep {N : Tmp} {oi : Oper} (k : Nat) (v : SV) (hoi : ops[i]? = some oi) (hN : oi.dst = some N) (hLo : LOk L) (hL : L[k]? = some (i, N, v))
    (hA : (A.all fun x => !(x.born == some i) && !(x.stored == some i)) = true)
    (hgo : ∀ b G w (K : Act → World → Prop), Below wE.heap.size wE w → Ons B O i b → Offs B O i b → (∀ x ∈ A, isOn b true x.born = true → wE.heap.size ≤ x.ad G ∧ Row w (x.ad G) x.k x.n (x.f b) x.t) →
      (∀ w', Below w.heap.size w w' → K ((putSel a0 b (vals G L)).put oi.dst (v.at G)) w') →
      if Region.wanted oi (yielded ops (putSel a0 b (vals G L)).tmps) = true then Oper.wp P oi (putSel a0 b (vals G L)) w K Q else K ((putSel a0 b (vals G L)).put oi.dst undef) w) :
    StepAt P ops Q B O (RI wE a0 L A) i := by
  rintro b a w ⟨G, rfl, hB, hR, hD⟩ hb hon hoff
  refine ⟨oi, hoi, fun K hK => hgo b G w K hB hon hoff hR (fun w' hw' => hK _ _ ⟨G, ?_, hB.trans (hw'.mono hB.size), fun x hx hbx => ?_, ?_⟩)⟩
  · rw [hN]
    exact putSel_upk k hb (vals_get hL) (by have h := vals_get (G := G) hL; obtain ⟨h1, h2⟩ := List.getElem?_eq_some_iff.1 h; rw [← h2]; exact List.set_getElem_self h1) (hLo.rest hL G)
  · have hx2 := List.all_eq_true.1 hA x hx
    simp only [Bool.and_eq_true, Bool.not_eq_true'] at hx2
    rw [isOn_up hx2.1] at hbx
    have h := hR x hx hbx
    have e : x.f (up b i) = x.f b := by unfold Ent.f; rw [isOn_up hx2.2]
    rw [e]
    exact ⟨h.1, h.2.below hw' h.2.lt⟩
  · refine hD.imp_of_mem (fun {x y} hx hy h h1 h2 => ?_)
    have hx2 := List.all_eq_true.1 hA x hx
    have hy2 := List.all_eq_true.1 hA y hy
    simp only [Bool.and_eq_true, Bool.not_eq_true'] at hx2 hy2
    rw [isOn_up hx2.1] at h1
    rw [isOn_up hy2.1] at h2
    exact h h1 h2
/-- A pure operation. -/
theorem st_run {N : Tmp} {oi : Oper} (k : Nat) (v : SV) (hoi : ops[i]? = some oi) (hN : oi.dst = some N) (hLo : LOk L) (hL : L[k]? = some (i, N, v))
    (hA : (A.all fun x => !(x.born == some i) && !(x.stored == some i)) = true)
    (hw : ∀ b G, Ons B O i b → Offs B O i b → Region.wanted oi (yielded ops (putSel a0 b (vals G L)).tmps) = true) (hrun : ∀ b G w, Ons B O i b → Offs B O i b → (execOp (putSel a0 b (vals G L)).eval oi).run P w = .ok (.value (v.at G)) w) : StepAt P ops Q B O (RI wE a0 L A) i :=
  st_keep k v hoi hN hLo hL hA (fun b G w K hB hon hoff hR hK => event_step (hw b G hon hoff) (hrun b G w hon hoff) (hK _ (Below.refl _ _)))
/-- What an entry holds at operation i. -/
def onB (B O : List Nat) (i : Nat) : Option Nat → Bool
  | none => true
  | some j => O.contains j && (B.getD i 0).testBit j
def offB (B O : List Nat) (i : Nat) : Option Nat → Bool
  | none => true
  | some s => O.contains s && (B.getD s 0).testBit i
theorem onB_is {b : Nat → Bool} {o : Option Nat} (h : onB B O i o = true) (hon : Ons B O i b) : isOn b true o = true := by
  cases o with
  | none => rfl
  | some j => exact hon j h
theorem offB_is {b : Nat → Bool} {o : Option Nat} (h : offB B O i o = true) (hoff : Offs B O i b) : isOn b false o = false := by
  cases o with
  | none => rfl
  | some j => exact hoff j h
theorem add_at (g off j : Nat) : (⟨g, off, none⟩ : Addr).add j = ⟨g, off + j, none⟩ := by
  unfold Addr.add
  split
  · subst j; rfl
  · rfl
theorem exec_load_at {o : Oper} {ev : Operand → Value} {w : World} {k : IntKind} {n : Nat} {f : Nat → Int} {ty : TypeId} {x : Operand} {ad : Addr} {d : TypeDesc}
    (hr : ∀ j, j < n → w.cell? (ad.add j) = some (.int k (f j))) (hu : P.underlying ty = some d) (hi : (P.info? ty).map (·.size) = some n) (hd : (match d with | .struct _ | .array _ _ => true | _ => false) = true) (ho : o.op = .load ty x) (hx : ev x = .pointer (some ad)) :
    (execOp ev o).run P w = .ok (.value (.agg (FR k n f))) w := by
  obtain ⟨ie, hie, hs⟩ : ∃ ie, P.info? ty = some ie ∧ ie.size = n := by
    cases he : P.info? ty with
    | none => rw [he] at hi; cases hi
    | some ie => rw [he] at hi; exact ⟨ie, rfl, Option.some.inj hi⟩
  have hti : (typeInfo ty).run P w = .ok ie w := by simp [typeInfo, hie]
  have ha : (isAgg ty).run P w = .ok true w := by
    simp only [isAgg, Sem.run_bind, run_underlying hu, Result.andThen_ok]
    cases d <;> simp_all
  have hl : (loadCells ad n).run P w = .ok (FR k n f) w := by
    have := run_loadCells_list (P := P) w ad (FR k n f).toList (fun j v hv => by
      rw [Array.getElem?_toList] at hv
      by_cases hj : j < n
      · rw [FR_at _ _ _ _ hj] at hv; rw [hr j hj]; exact hv
      · rw [FR_out _ _ _ _ hj] at hv; cases hv)
    rw [Array.length_toList, FR_size] at this
    simpa using this
  unfold execOp
  simp only [ho, hx, Instr.loadAt, Instr.sureAddr, Sem.run_bind, Sem.run_pure, Result.andThen_ok, loadVar, ha, sizeOf, hti, hs, hl, if_true]
theorem ad_setG {x : Ent} {G : Nat → Nat} {g : Nat} (h : (x.born == some i) = false) : x.ad (fun j => if j = i then g else G j) = x.ad G := by
  unfold Ent.ad
  cases hb : x.born with
  | none => rfl
  | some j =>
    rw [hb] at h
    have : j ≠ i := fun e => by subst e; simp at h
    simp [this]
/-- A load of m numbers at off in a row that is held: as it was ahead of the region. -/
theorem st_load0 {N : Tmp} {oi : Oper} (k : Nat) (r : Nat) (x : Ent) (off m : Nat) {ty : TypeId} {p : Operand} {d : TypeDesc} (hx : A[r]? = some x) (hoi : ops[i]? = some oi) (hN : oi.dst = some N) (ho : oi.op = .load ty p) (hw : ∀ b G, Ons B O i b → Offs B O i b → Region.wanted oi (yielded ops (putSel a0 b (vals G L)).tmps) = true)
    (hLo : LOk L) (hL : L[k]? = some (i, N, .val (.agg (FR x.k m fun j => x.f0 (off + j))))) (hA : (A.all fun x => !(x.born == some i) && !(x.stored == some i)) = true)
    (hbo : onB B O i x.born = true) (hst : offB B O i x.stored = true) (hm : off + m ≤ x.n) (hu : P.underlying ty = some d) (hi : (P.info? ty).map (·.size) = some m) (hdd : (match d with | .struct _ | .array _ _ => true | _ => false) = true)
    (hp : ∀ b G, Ons B O i b → Offs B O i b → (putSel a0 b (vals G L)).eval p = .pointer (some ⟨x.ad G, off, none⟩)) : StepAt P ops Q B O (RI wE a0 L A) i :=
  st_keep k (.val (.agg (FR x.k m fun j => x.f0 (off + j)))) hoi hN hLo hL hA (fun b G w K hB hon hoff hR hK => by
    have h := (hR x (List.mem_of_getElem? hx) (onB_is hbo hon)).2
    have e : x.f b = x.f0 := by unfold Ent.f; rw [offB_is hst hoff]; rfl
    rw [e] at h
    exact event_step (hw b G hon hoff) (exec_load_at (k := x.k) (n := m) (ad := ⟨x.ad G, off, none⟩) (f := fun j => x.f0 (off + j)) (fun j hj => by rw [add_at]; exact h.cell (off + j) (by omega)) hu hi hdd ho (hp b G hon hoff)) (hK _ (Below.refl _ _)))
/-- A call, by its contract. -/
theorem st_call {N : Tmp} {oi : Oper} (k : Nat) (v : Value) {f : FuncId} {fn : Func} {asx : Array Operand} {ts : Array TypeId} (args : Array Value) (hoi : ops[i]? = some oi) (hN : oi.dst = some N) (hop : oi.op = .call { callee := .value (.func f), args := asx, argTypes := ts }) (hw : ∀ b G, Ons B O i b → Offs B O i b → Region.wanted oi (yielded ops (putSel a0 b (vals G L)).tmps) = true)
    (hLo : LOk L) (hL : L[k]? = some (i, N, .val v)) (hA : (A.all fun x => !(x.born == some i) && !(x.stored == some i)) = true)
    (hf : P.funcs[f]? = some fn) (hname : (fn.name == "runtime.NumGoroutine") = false) (hbd : fn.body.isSome = true) (hargs : ∀ b G, Ons B O i b → Offs B O i b → asx.map (putSel a0 b (vals G L)).eval = args)
    (hc : ∀ w, Below wE.heap.size wE w → Calls P f args w fun e w' => e = .returned v ∧ Below w.heap.size w w') : StepAt P ops Q B O (RI wE a0 L A) i :=
  st_keep k (.val v) hoi hN hLo hL hA (fun b G w K hB hon hoff hR hK => goes_ hf hname hbd args (hw b G hon hoff) rfl hop (hargs b G hon hoff) ((hc w hB).mono (by
    rintro e w' ⟨rfl, hb⟩
    exact ⟨_, rfl, hK _ hb⟩)))
/-- An operation without a destination that turns nothing. -/
def setG (G : Nat → Nat) (i g : Nat) : Nat → Nat := fun j => if j = i then g else G j
/-- An alloc: entry k of the slots, row r of those held. -/
theorem st_alloc {N : Tmp} {oi : Oper} {mk : Nat → Value} (k r : Nat) (kk : IntKind) (n : Nat) (t : TypeId) (st : Option Nat) (f0 f1 : Nat → Int) (hoi : ops[i]? = some oi) (hN : oi.dst = some N) (hw : ∀ b G, Ons B O i b → Offs B O i b → Region.wanted oi (yielded ops (putSel a0 b (vals G L)).tmps) = true)
    (hx : A[r]? = some ⟨0, some i, st, kk, n, f0, f1, t⟩) (hLo : LOk L) (hL : L[k]? = some (i, N, .new i mk)) (hL' : ((L.take k ++ L.drop (k + 1)).all fun e => !e.2.2.of i) = true)
    (hA : ((A.take r ++ A.drop (r + 1)).all fun x => !(x.born == some i)) = true) (hAs : (A.all fun x => !(x.stored == some i)) = true)
    (hst : offB B O i st = true) (hrun : ∀ b G w, Ons B O i b → Offs B O i b → (execOp (putSel a0 b (vals G L)).eval oi).run P w = .ok (.value (mk w.heap.size)) (w.alloc (.cells (FR kk n f0) t))) :
    StepAt P ops Q B O (RI wE a0 L A) i := by
  rintro b a w ⟨G, rfl, hB, hR, hD⟩ hb hon hoff
  refine ⟨oi, hoi, fun K hK => event_step (hw b G hon hoff) (hrun b G w hon hoff) (hK _ _ ⟨setG G i w.heap.size, ?_, hB.alloc hB.size _, fun x hx' hbx => ?_, ?_⟩)⟩
  · rw [hN]
    exact putSel_upk k hb (vals_get hL) (vals_setG hL' hL).symm (hLo.rest hL G)
  · obtain ⟨j, hj⟩ := List.getElem?_of_mem hx'
    have hxs := List.all_eq_true.1 hAs x hx'
    rw [Bool.not_eq_true'] at hxs
    have e : x.f (up b i) = x.f b := by unfold Ent.f; rw [isOn_up hxs]
    rw [e]
    by_cases hjr : j = r
    · subst hjr
      rw [hx] at hj
      obtain rfl := Option.some.inj hj
      have e2 : (setG G i w.heap.size) i = w.heap.size := if_pos rfl
      have e3 : (⟨0, some i, st, kk, n, f0, f1, t⟩ : Ent).f b = f0 := by unfold Ent.f; rw [offB_is hst hoff]; rfl
      rw [e3]
      show wE.heap.size ≤ setG G i w.heap.size i ∧ Row _ (setG G i w.heap.size i) kk n _ t
      rw [e2]
      exact ⟨hB.size, Row.new _ _ _ _ _⟩
    · have hbx2 : (x.born == some i) = false ∧ isOn b true x.born = true := by
        have hm : x ∈ A.take r ++ A.drop (r + 1) := by
          rw [List.mem_append]
          by_cases hlt : j < r
          · left; exact List.mem_of_getElem? (i := j) (by rw [List.getElem?_take_of_lt hlt]; exact hj)
          · right; exact List.mem_of_getElem? (i := j - (r + 1)) (by rw [List.getElem?_drop]; rw [show r + 1 + (j - (r + 1)) = j by omega]; exact hj)
        have h2 := List.all_eq_true.1 hA x hm
        rw [Bool.not_eq_true'] at h2
        rw [isOn_up h2] at hbx
        exact ⟨h2, hbx⟩
      have h := hR x hx' hbx2.2
      rw [show x.ad (setG G i w.heap.size) = x.ad G from ad_setG hbx2.1]
      exact ⟨h.1, h.2.alloc _⟩
  · -- distinct
    rw [List.pairwise_iff_getElem] at hD ⊢
    intro j1 j2 h1 h2 hlt hb1 hb2
    have key : ∀ (j : Nat) (hj : j < A.length), j ≠ r → isOn (up b i) true (A[j]).born = true → isOn b true (A[j]).born = true ∧ (A[j]).ad (setG G i w.heap.size) = (A[j]).ad G ∧ (A[j]).ad G < w.heap.size := by
      intro j hj hjr hbj
      have hm : A[j] ∈ A.take r ++ A.drop (r + 1) := by
        rw [List.mem_append]
        by_cases hlt : j < r
        · left; exact List.mem_of_getElem? (i := j) (by rw [List.getElem?_take_of_lt hlt]; exact List.getElem?_eq_getElem hj)
        · right; exact List.mem_of_getElem? (i := j - (r + 1)) (by rw [List.getElem?_drop]; rw [show r + 1 + (j - (r + 1)) = j by omega]; exact List.getElem?_eq_getElem hj)
      have h2 := List.all_eq_true.1 hA _ hm
      rw [Bool.not_eq_true'] at h2
      rw [isOn_up h2] at hbj
      exact ⟨hbj, ad_setG h2, (hR _ (List.getElem_mem hj) hbj).2.lt⟩
    have hr := (List.getElem?_eq_some_iff.1 hx)
    obtain ⟨hrl, hre⟩ := hr
    have hself : (A[r]).ad (setG G i w.heap.size) = w.heap.size := by rw [hre]; exact if_pos rfl
    by_cases e1 : j1 = r
    · have hk2 := key j2 h2 (by omega) hb2
      subst e1
      rw [hself, hk2.2.1]; omega
    · have hk1 := key j1 h1 e1 hb1
      by_cases e2 : j2 = r
      · subst e2
        rw [hself, hk1.2.1]; omega
      · have hk2 := key j2 h2 e2 hb2
        rw [hk1.2.1, hk2.2.1]
        exact hD j1 j2 h1 h2 hlt hk1.1 hk2.1
/-- A store of a whole row. -/
theorem st_store {oi : Oper} (r : Nat) (x : Ent) {ty : TypeId} {p y : Operand} (hx : A[r]? = some x) (hxs : x.stored = some i) (hoi : ops[i]? = some oi) (hN : oi.dst = none) (ho : oi.op = .store ty p y) (hw : ∀ b G, Ons B O i b → Offs B O i b → Region.wanted oi (yielded ops (putSel a0 b (vals G L)).tmps) = true)
    (hL : (L.all fun e => !(e.1 == i)) = true) (hA : (A.all fun x => !(x.born == some i)) = true) (hAs : ((A.take r ++ A.drop (r + 1)).all fun x => !(x.stored == some i)) = true) (hbo : onB B O i x.born = true) (hi : (P.info? ty).map (·.size) = some x.n)
    (hp : ∀ b G, Ons B O i b → Offs B O i b → (putSel a0 b (vals G L)).eval p = .pointer (some ⟨x.ad G, 0, none⟩)) (hy : ∀ b G, Ons B O i b → Offs B O i b → (putSel a0 b (vals G L)).eval y = .agg (FR x.k x.n x.f1)) : StepAt P ops Q B O (RI wE a0 L A) i := by
  rintro b a w ⟨G, rfl, hB, hR, hD⟩ hb hon hoff
  have hxm := List.mem_of_getElem? hx
  have h0 := hR x hxm (onB_is hbo hon)
  refine ⟨oi, hoi, fun K hK => ?_⟩
  rw [hN]
  refine oper_storeG x.f1 h0.2 hi (hw b G hon hoff) hN ho (hp b G hon hoff) (hy b G hon hoff) (fun w' hs hr => hK _ _ ⟨G, (putSel_same (by unfold vals; rw [List.all_map]; exact hL)).symm, hs.bel _ _ h0.1 hB, fun z hz hbz => ?_, ?_⟩)
  · have hzb := List.all_eq_true.1 hA z hz
    rw [Bool.not_eq_true'] at hzb
    rw [isOn_up hzb] at hbz
    obtain ⟨j, hj⟩ := List.getElem?_of_mem hz
    by_cases hjr : j = r
    · subst hjr
      rw [hx] at hj
      obtain rfl := Option.some.inj hj
      have e : x.f (up b i) = x.f1 := by unfold Ent.f; rw [hxs]; exact if_pos (up_self b i)
      rw [e]
      exact ⟨h0.1, hr⟩
    · have hm : z ∈ A.take r ++ A.drop (r + 1) := by
        rw [List.mem_append]
        by_cases hlt : j < r
        · left; exact List.mem_of_getElem? (i := j) (by rw [List.getElem?_take_of_lt hlt]; exact hj)
        · right; exact List.mem_of_getElem? (i := j - (r + 1)) (by rw [List.getElem?_drop]; rw [show r + 1 + (j - (r + 1)) = j by omega]; exact hj)
      have h2 := List.all_eq_true.1 hAs z hm
      rw [Bool.not_eq_true'] at h2
      have e : z.f (up b i) = z.f b := by unfold Ent.f; rw [isOn_up h2]
      rw [e]
      have hz0 := hR z hz hbz
      refine ⟨hz0.1, hz0.2.stored hs ?_⟩
      rw [List.pairwise_iff_getElem] at hD
      obtain ⟨hjl, hje⟩ := List.getElem?_eq_some_iff.1 hj
      obtain ⟨hrl, hre⟩ := List.getElem?_eq_some_iff.1 hx
      by_cases hlt : j < r
      · have := hD j r hjl hrl hlt (by rw [hje]; exact hbz) (by rw [hre]; exact onB_is hbo hon)
        rwa [hje, hre] at this
      · have := hD r j hrl hjl (by omega) (by rw [hre]; exact onB_is hbo hon) (by rw [hje]; exact hbz)
        rw [hje, hre] at this
        exact fun e => this e.symm
  · refine hD.imp_of_mem (fun {z y} hz hy h h1 h2 => ?_)
    have hz2 := List.all_eq_true.1 hA z hz
    have hy2 := List.all_eq_true.1 hA y hy
    rw [Bool.not_eq_true'] at hz2 hy2
    rw [isOn_up hz2] at h1
    rw [isOn_up hy2] at h2
    exact h h1 h2
noncomputable def Ent.row (x : Ent) (G : Nat → Nat) : RowD := ⟨@Option.rec Nat (fun _ => Nat) x.g (fun i => G i) x.born, x.k, x.n, @Option.rec Nat (fun _ => Nat → Int) x.f0 (fun _ => x.f1) x.stored, x.t⟩
theorem Ent.row_g (x : Ent) (G : Nat → Nat) : (x.row G).g = x.ad G := by cases x with | mk g born stored k n f0 f1 t => cases born <;> rfl
theorem Ent.row_f (x : Ent) (G : Nat → Nat) : (x.row G).f = if x.stored.isSome then x.f1 else x.f0 := by cases x with | mk g born stored k n f0 f1 t => cases stored <;> rfl
def Ent.row0 (x : Ent) : RowD := ⟨x.g, x.k, x.n, x.f0, x.t⟩
theorem putSel_nil {b : Nat → Bool} : ∀ {M : List (Nat × Tmp × Value)} {a : Act}, (∀ e, b e = false) → putSel a b M = a
  | [], _, _ => rfl
  | e :: r, a, h => by
    unfold putSel
    rw [if_neg (by rw [h]; decide)]
    exact putSel_nil h
/-- It holds where none has come up. -/
theorem RI.start {w : World} {R : List RowD} (hH : Held wE w R) (hR : (A.filter fun x => x.born == none).map Ent.row0 = R) : RI wE a0 L A (fun _ => false) a0 w := by
  obtain ⟨h1, h2, h3⟩ := hH
  subst hR
  refine ⟨fun _ => 0, (putSel_nil (fun _ => rfl)).symm, h1, fun x hx hbx => ?_, ?_⟩
  · have hb0 : x.born = none := by
      cases h : x.born with
      | none => rfl
      | some j => rw [h] at hbx; cases hbx
    have hm : x.row0 ∈ (A.filter fun x => x.born == none).map Ent.row0 := List.mem_map.2 ⟨x, List.mem_filter.2 ⟨hx, by rw [hb0]; rfl⟩, rfl⟩
    have h := h2 _ hm
    have e : x.f (fun _ => false) = x.f0 := by unfold Ent.f; cases x.stored <;> rfl
    rw [e]
    have e2 : x.ad (fun _ => 0) = x.g := by unfold Ent.ad; rw [hb0]
    rw [e2]
    exact h
  · rw [List.map_map] at h3
    have h4 := (List.nodup_iff_pairwise_ne.1 h3)
    rw [List.pairwise_map, List.pairwise_filter] at h4
    refine h4.imp (fun {x y} h h1 h2 => ?_)
    have hx0 : x.born = none := by
      cases hh : x.born with
      | none => rfl
      | some j => rw [hh] at h1; cases h1
    have hy0 : y.born = none := by
      cases hh : y.born with
      | none => rfl
      | some j => rw [hh] at h2; cases h2
    have e1 : x.ad (fun _ => 0) = x.g := by unfold Ent.ad; rw [hx0]
    have e2 : y.ad (fun _ => 0) = y.g := by unfold Ent.ad; rw [hy0]
    rw [e1, e2]
    exact h (by rw [hx0]; rfl) (by rw [hy0]; rfl)
/-- What slots hold. -/
def Sl (a : Act) (sz : Nat) (S : List (Tmp × Value)) : Prop := a.tmps.size = sz ∧ a.defers = [] ∧ ∀ e ∈ S, a.eval (.tmp e.1) = e.2
theorem Sl.get {a : Act} {sz : Nat} {S : List (Tmp × Value)} (h : Sl a sz S) {t : Tmp} {v : Value} (k : Nat) (hk : S[k]? = some (t, v)) : a.eval (.tmp t) = v := h.2.2 _ (List.mem_of_getElem? hk)
/-- The slots told of behind the region: out of L, or as they were. -/
def SlOk (L : List (Nat × Tmp × SV)) (S : List (Tmp × Value)) : List (Tmp × SV) → Prop
  | [] => True
  | e :: r => ((∃ d ∈ L, d.2 = (e.1, e.2)) ∨ ((L.all fun d => !(d.2.1 == e.1)) = true ∧ ∃ v, e.2 = .val v ∧ (e.1, v) ∈ S)) ∧ SlOk L S r
theorem slL {S : List (Tmp × Value)} {e : Tmp × SV} {r : List (Tmp × SV)} (k : Nat) {d : Nat} (h : L[k]? = some (d, e.1, e.2)) (hr : SlOk L S r) : SlOk L S (e :: r) := ⟨.inl ⟨_, List.mem_of_getElem? h, rfl⟩, hr⟩
theorem slS {S : List (Tmp × Value)} {t : Tmp} {v : Value} {r : List (Tmp × SV)} (k : Nat) (h : S[k]? = some (t, v)) (ho : (L.all fun d => !(d.2.1 == t)) = true) (hr : SlOk L S r) : SlOk L S ((t, .val v) :: r) := ⟨.inr ⟨ho, v, rfl, List.mem_of_getElem? h⟩, hr⟩
theorem SlOk.mem {S : List (Tmp × Value)} : ∀ {M : List (Tmp × SV)}, SlOk L S M → ∀ e ∈ M, (∃ d ∈ L, d.2 = (e.1, e.2)) ∨ ((L.all fun d => !(d.2.1 == e.1)) = true ∧ ∃ v, e.2 = .val v ∧ (e.1, v) ∈ S)
  | [], _, e, he => by cases he
  | x :: r, h, e, he => by
    rcases List.mem_cons.1 he with rfl | he
    · exact h.1
    · exact h.2.mem e he
/-- It holds where all have. -/
theorem RI.fin {b : Nat → Bool} {a : Act} {w : World} {sz : Nat} {S : List (Tmp × Value)} {S' : List (Tmp × SV)} (h : RI wE a0 L A b a w) (hO : ∀ j, O.contains j = true → b j = true) (hA : (A.all fun x => (match x.born with | none => true | some j => O.contains j) && (match x.stored with | none => true | some j => O.contains j)) = true)
    (hLo : LOk L) (hL : (L.all fun e => O.contains e.1 && Nat.ble (e.2.1 + 1) sz) = true) (hS : Sl a0 sz S) (hS' : SlOk L S S') : ∃ G, Sl a sz (S'.map fun e => (e.1, e.2.at G)) ∧ Held wE w (A.map fun x => x.row G) := by
  obtain ⟨G, rfl, hB, hR, hD⟩ := h
  have hbo : ∀ x ∈ A, isOn b true x.born = true := fun x hx => by
    have := List.all_eq_true.1 hA x hx
    rw [Bool.and_eq_true] at this
    cases hh : x.born with
    | none => rfl
    | some j => rw [hh] at this; exact hO j this.1
  have hf : ∀ x ∈ A, x.f b = if x.stored.isSome then x.f1 else x.f0 := fun x hx => by
    have := List.all_eq_true.1 hA x hx
    rw [Bool.and_eq_true] at this
    unfold Ent.f
    cases hh : x.stored with
    | none => rfl
    | some j => rw [hh] at this; simp only [isOn, hO j this.2, Option.isSome_some]
  refine ⟨G, ⟨(putSel_size b _ _).1.trans hS.1, (putSel_size b _ _).2.trans hS.2.1, fun e he => ?_⟩, hB, fun r hr => ?_, ?_⟩
  · obtain ⟨e2, he2, rfl⟩ := List.mem_map.1 he
    rcases hS'.mem e2 he2 with ⟨d, hd, hde⟩ | ⟨ho, v, hv, hm⟩
    · obtain ⟨k, hk⟩ := List.getElem?_of_mem hd
      have h1 := List.all_eq_true.1 hL d hd
      rw [Bool.and_eq_true] at h1
      obtain ⟨d1, d2, d3⟩ := d
      obtain ⟨e1, e3⟩ := e2
      obtain ⟨rfl, rfl⟩ := Prod.mk.inj hde
      exact ev_on hLo k hk hS.1 h1.2 (hO d1 h1.1)
    · obtain ⟨e1, e3⟩ := e2
      simp only at ho hv hm ⊢
      subst hv
      exact ev_off ho (hS.2.2 _ hm)
  · obtain ⟨x, hx, rfl⟩ := List.mem_map.1 hr
    have h := hR x hx (hbo x hx)
    rw [hf x hx] at h
    rw [Ent.row_g, Ent.row_f]
    exact h
  · rw [List.map_map, List.nodup_iff_pairwise_ne, List.pairwise_map]
    refine hD.imp_of_mem (fun {x y} hx hy h => ?_)
    show (x.row G).g ≠ (y.row G).g
    rw [Ent.row_g, Ent.row_g]
    exact h (hbo x hx) (hbo y hy)
/-- A drawn region from here to its end. -/
theorem region_ {T : Bool × List (List Nat × List Nat)} {w : World} {R : List RowD} {id n sz : Nat} {S : List (Tmp × Value)} (O : List Nat) (S' : List (Tmp × SV)) (L : List (Nat × Tmp × SV)) (A : List Ent) (hm : P.follows .mixedOrders = true) (hn : ops.size = n) (hT : rtab .any ops = T) (hw : waitsOk T.2 B = true) (hk : baseOk T.2 O = true) (hl : (lof T.2.length O (fun _ => false) == List.replicate n false && O.length == n) = true)
    (hH : Held wE w R) (hR : (A.filter fun x => x.born == none).map Ent.row0 = R) (hA : (A.all fun x => (match x.born with | none => true | some j => O.contains j) && (match x.stored with | none => true | some j => O.contains j)) = true) (hLo : LOk L) (hL : (L.all fun e => O.contains e.1 && Nat.ble (e.2.1 + 1) sz) = true) (hS : Sl a0 sz S) (hS' : SlOk L S S')
    (hs : ∀ i ∈ O, StepAt P ops Q B O (RI wE a0 L A) i) (hend : ∀ G a' w', Sl a' sz (S'.map fun e => (e.1, e.2.at G)) → Held wE w' (A.map fun x => x.row G) → Q .normal a' w') : (Code.region id ops true).wp P Q a0 w := by
  refine start_ (n := n) (S := fun _ => True) (ds := []) (Array.replicate n false) hm hn rfl trivial (fun _ => ?_)
  have hH' : Held wE w.drew R := ⟨hH.1.drew, fun r hr => ⟨(hH.2.1 r hr).1, (hH.2.1 r hr).2⟩, hH.2.2⟩
  refine inv_ O (RI wE a0 L A) hT hw hk (by simpa using hl) (RI.start hH' hR) hs (fun b a' w' hall hI => ?_)
  obtain ⟨G, h1, h2⟩ := hI.fin hall hA hLo hL hS hS'
  exact hend G a' w' h1 h2
/-- A region in its order. -/
theorem list_all (B : List Nat) (I : (Nat → Bool) → Act → World → Prop) (hs : ∀ i ∈ List.range ops.size, StepAt P ops Q B (List.range ops.size) I i)
    (hB : ∀ i j, (List.range ops.size).contains j = true → (B.getD i 0).testBit j = true → j < i) (hend : ∀ a w, I (fun j => decide (j < ops.size)) a w → Q .normal a w) :
    ∀ (m k : Nat) (a : Act) (w : World), k + m = ops.size → I (fun j => decide (j < k)) a w → wpList P ops Q (ops.toList.drop k) a w
  | 0, k, a, w, hk, hI => by
    have e : ops.toList.drop k = [] := by rw [List.drop_eq_nil_iff]; simp; omega
    rw [e]
    have e2 : k = ops.size := by omega
    subst e2
    exact hend a w hI
  | m + 1, k, a, w, hk, hI => by
    have hlt : k < ops.toList.length := by simp; omega
    rw [List.drop_eq_getElem_cons hlt]
    obtain ⟨oi, hoi, h⟩ := hs k (List.mem_range.2 (by omega)) _ a w hI (by simp) (fun j hj => by
      rw [Bool.and_eq_true] at hj
      simpa using hB k j hj.1 hj.2) (fun d hd => by
      rw [Bool.and_eq_true] at hd
      have := hB d k (by simp; omega) hd.2
      simp; omega)
    have e : ops.toList[k] = oi := by
      have h1 := List.getElem?_eq_getElem hlt
      rw [Array.getElem?_toList, hoi] at h1
      exact (Option.some.inj h1).symm
    rw [e]
    refine wpList_step (fun K hK => h K (fun a' w' hI' => hK a' w' (list_all B I hs hB hend m (k + 1) a' w' (by omega) ?_)))
    have e2 : (fun j => decide (j < k + 1)) = up (fun j => decide (j < k)) k := by
      funext j
      unfold up
      split
      · subst j; simp
      · rename_i hne
        have : (j < k + 1) = (j < k) := by apply propext; omega
        simp only [this]
    rw [e2]
    exact hI'
def lowB (B : List Nat) (n : Nat) : Bool := (List.range B.length).all fun i => (B.getD i 0) < 2 ^ i
theorem lowB_is {n : Nat} (h : lowB B n = true) (i j : Nat) (hj : (B.getD i 0).testBit j = true) : j < i := by
  by_cases hi : i < B.length
  · have h1 := List.all_eq_true.1 h i (List.mem_range.2 hi)
    rw [decide_eq_true_eq] at h1
    apply Decidable.byContradiction
    intro hn
    have : (B.getD i 0).testBit j = false := Nat.testBit_lt_two_pow (Nat.lt_of_lt_of_le h1 (Nat.pow_le_pow_right (by omega) (by omega)))
    rw [this] at hj; cases hj
  · rw [List.getD_eq_getElem?_getD, List.getElem?_eq_none (by omega)] at hj
    simp at hj
/-- A region in its order, from its begin to its end. -/
theorem plain_ {w : World} {R : List RowD} {id n sz : Nat} {S : List (Tmp × Value)} (B : List Nat) (S' : List (Tmp × SV)) (L : List (Nat × Tmp × SV)) (A : List Ent) (hn : ops.size = n) (hB : lowB B n = true)
    (hH : Held wE w R) (hR : (A.filter fun x => x.born == none).map Ent.row0 = R) (hA : (A.all fun x => (match x.born with | none => true | some j => (List.range n).contains j) && (match x.stored with | none => true | some j => (List.range n).contains j)) = true) (hLo : LOk L) (hL : (L.all fun e => (List.range n).contains e.1 && Nat.ble (e.2.1 + 1) sz) = true) (hS : Sl a0 sz S) (hS' : SlOk L S S')
    (hs : ∀ i ∈ List.range n, StepAt P ops Q B (List.range n) (RI wE a0 L A) i) (hend : ∀ G a' w', Sl a' sz (S'.map fun e => (e.1, e.2.at G)) → Held wE w' (A.map fun x => x.row G) → Q .normal a' w') : (Code.region id ops false).wp P Q a0 w := by
  subst hn
  refine wp_region_list ?_
  have h := list_all (P := P) (Q := Q) (ops := ops) B (RI wE a0 L A) hs (fun i j _ hj => lowB_is hB i j hj) (fun a w hI => by
    obtain ⟨G, h1, h2⟩ := hI.fin (O := List.range ops.size) (fun j hj => by simpa using hj) hA hLo hL hS hS'
    exact hend G a w h1 h2) ops.size 0 a0 w (by omega) (by
      have e : (fun j : Nat => decide (j < 0)) = fun _ => false := by funext j; simp
      rw [e]
      exact RI.start hH hR)
  simpa using h
theorem then_ {K : Act → World → Prop} {a : Act} {w : World} (h : K a w) : Exit.then K Q .normal a w := h
theorem then_ret {K : Act → World → Prop} {a : Act} {w : World} (h : Q .ret a w) : Exit.then K Q .ret a w := h
theorem args0 {ev : Operand → Value} : (#[] : Array Operand).map ev = #[] := by simp
theorem args1 {ev : Operand → Value} {x : Operand} {u : Value} (h : ev x = u) : #[x].map ev = #[u] := by simp [h]
theorem args2 {ev : Operand → Value} {x y : Operand} {u v : Value} (h : ev x = u) (h2 : ev y = v) : #[x, y].map ev = #[u, v] := by simp [h, h2]
theorem args3 {ev : Operand → Value} {x y z : Operand} {u v t : Value} (h : ev x = u) (h2 : ev y = v) (h3 : ev z = t) : #[x, y, z].map ev = #[u, v, t] := by simp [h, h2, h3]
/-- An operation whose run is known where its operands are. -/
theorem exec_box {o : Oper} {ev : Operand → Value} {w : World} {ty : TypeId} {x : Operand} {v : Value} {p : Value} {w' : World} (ho : o.op = .box ty x) (hx : ev x = v) (h : (Instr.box ty v).run P w = .ok p w') : (execOp ev o).run P w = .ok (.value p) w' := by
  unfold execOp
  simp only [ho, hx, Sem.run_bind, Sem.run_pure, h, Result.andThen_ok]
theorem exec_build {o : Oper} {ev : Operand → Value} {w : World} {ty : TypeId} {parts : Array (Nat × Operand)} {ps : Array (Nat × Value)} {v : Value} (ho : o.op = .build ty parts) (hx : (parts.map fun (i, x) => (i, ev x)) = ps) (h : (Instr.build ty ps).run P w = .ok v w) : (execOp ev o).run P w = .ok (.value v) w := by
  unfold execOp
  simp only [ho, hx, Sem.run_bind, Sem.run_pure, h, Result.andThen_ok]
theorem exec_field {o : Oper} {ev : Operand → Value} {w : World} {ty : TypeId} {x : Operand} {p v : Value} {n : Nat} (ho : o.op = .fieldAddr ty x n) (hx : ev x = p) (h : (Instr.fieldAt ty p n).run P w = .ok v w) : (execOp ev o).run P w = .ok (.value v) w := by
  unfold execOp
  simp only [ho, hx, Sem.run_bind, Sem.run_pure, h, Result.andThen_ok]
theorem parts4 {ev : Operand → Value} {x y z a : Operand} {u v t s : Value} (h : ev x = u) (h2 : ev y = v) (h3 : ev z = t) (h4 : ev a = s) : ((#[(0, x), (1, y), (2, z), (3, a)] : Array (Nat × Operand)).map fun (i, x) => (i, ev x)) = #[(0, u), (1, v), (2, t), (3, s)] := by simp [h, h2, h3, h4]
theorem parts0 {ev : Operand → Value} : ((#[] : Array (Nat × Operand)).map fun (i, x) => (i, ev x)) = #[] := by simp
theorem parts1 {ev : Operand → Value} {i : Nat} {x : Operand} {u : Value} (h : ev x = u) : ((#[(i, x)] : Array (Nat × Operand)).map fun (i, x) => (i, ev x)) = #[(i, u)] := by simp [h]
theorem parts2 {ev : Operand → Value} {i j : Nat} {x y : Operand} {u v : Value} (h : ev x = u) (h2 : ev y = v) : ((#[(i, x), (j, y)] : Array (Nat × Operand)).map fun (i, x) => (i, ev x)) = #[(i, u), (j, v)] := by simp [h, h2]
theorem Held.first (w : World) : Held w w [] := ⟨Below.refl _ _, fun _ h => (by cases h), List.nodup_nil⟩
theorem Held.row {wE w : World} {R : List RowD} (h : Held wE w R) (k : Nat) {r : RowD} (hk : R[k]? = some r) : Row w r.g r.k r.n r.f r.t := (h.2.1 r (List.mem_of_getElem? hk)).2
/-- A load of a whole row. -/
theorem st_row0 {N : Tmp} {oi : Oper} (k : Nat) (r : Nat) (x : Ent) {ty : TypeId} {p : Operand} {d : TypeDesc} (hx : A[r]? = some x) (hoi : ops[i]? = some oi) (hN : oi.dst = some N) (ho : oi.op = .load ty p) (hw : ∀ b G, Ons B O i b → Offs B O i b → Region.wanted oi (yielded ops (putSel a0 b (vals G L)).tmps) = true)
    (hLo : LOk L) (hL : L[k]? = some (i, N, .val (.agg (FR x.k x.n x.f0)))) (hA : (A.all fun x => !(x.born == some i) && !(x.stored == some i)) = true)
    (hbo : onB B O i x.born = true) (hst : offB B O i x.stored = true) (hu : P.underlying ty = some d) (hi : (P.info? ty).map (·.size) = some x.n) (hdd : (match d with | .struct _ | .array _ _ => true | _ => false) = true)
    (hp : ∀ b G, Ons B O i b → Offs B O i b → (putSel a0 b (vals G L)).eval p = .pointer (some ⟨x.ad G, 0, none⟩)) : StepAt P ops Q B O (RI wE a0 L A) i :=
  st_keep k (.val (.agg (FR x.k x.n x.f0))) hoi hN hLo hL hA (fun b G w K hB hon hoff hR hK => by
    have h := (hR x (List.mem_of_getElem? hx) (onB_is hbo hon)).2
    have e : x.f b = x.f0 := by unfold Ent.f; rw [offB_is hst hoff]; rfl
    rw [e] at h
    exact event_step (hw b G hon hoff) (exec_load h hu hi hdd ho (hp b G hon hoff)) (hK _ (Below.refl _ _)))
/-- A load of what stays as it is below the entry (a table). -/
theorem st_table {N : Tmp} {oi : Oper} (k : Nat) {ty : TypeId} {p : Operand} {d : TypeDesc} {kk : IntKind} {n g : Nat} {f : Nat → Int} (hoi : ops[i]? = some oi) (hN : oi.dst = some N) (ho : oi.op = .load ty p) (hw : ∀ b G, Ons B O i b → Offs B O i b → Region.wanted oi (yielded ops (putSel a0 b (vals G L)).tmps) = true)
    (hLo : LOk L) (hL : L[k]? = some (i, N, .val (.agg (FR kk n f)))) (hA : (A.all fun x => !(x.born == some i) && !(x.stored == some i)) = true) (hu : P.underlying ty = some d) (hi : (P.info? ty).map (·.size) = some n) (hdd : (match d with | .struct _ | .array _ _ => true | _ => false) = true)
    (hT : ∀ w, Below wE.heap.size wE w → ∀ j, j < n → w.cell? ((⟨g, 0, none⟩ : Addr).add j) = some (.int kk (f j))) (hp : p = .global g) : StepAt P ops Q B O (RI wE a0 L A) i :=
  st_keep k (.val (.agg (FR kk n f))) hoi hN hLo hL hA (fun b G w K hB hon hoff hR hK => by
    subst hp
    exact event_step (hw b G hon hoff) (exec_load_at (hT w hB) hu hi hdd ho rfl) (hK _ (Below.refl _ _)))
def argS (args : Array Value) : List (Tmp × Value) := args.toList.zipIdx.map fun e => (e.2, e.1)
theorem enter_ {f : FuncId} {fn : Func} {c : Code} {args : Array Value} {w : World} {R : Ending → World → Prop} (sz : Nat) (hf : P.funcs[f]? = some fn) (hb : fn.body = some c) (hsz : args.size + (fn.ntmps - args.size) = sz)
    (h : ∀ a, Sl a sz (argS args) → c.wp P (bodyPost P fn R) a w) : Calls P f args w R := by
  refine calls_of_wp hf hb (h _ ⟨by simpa using hsz, rfl, fun e he => ?_⟩)
  unfold argS at he
  obtain ⟨⟨v, j⟩, hm, rfl⟩ := List.mem_map.1 he
  have h1 := List.mem_zipIdx_iff_getElem?.1 hm
  simp only at h1
  have h2 : args[j]? = some v := by rw [← Array.getElem?_toList]; exact h1
  have hlt : j < args.size := (Array.getElem?_eq_some_iff.1 h2).1
  show (args ++ Array.replicate (fn.ntmps - args.size) undef).getD j undef = v
  rw [Array.getD_eq_getD_getElem?, Array.getElem?_append_left hlt, h2]
  rfl
/-- The end: a row is the result. -/
theorem ret_row {fn : Func} {R : Ending → World → Prop} {p : Tmp} {ty : TypeId} {a : Act} {w : World} {g n : Nat} {k : IntKind} {f : Nat → Int} {t : TypeId} {d : TypeDesc} (h : fn.results = #[.cell p ty]) (hd : a.defers = []) (hp : a.eval (.tmp p) = .pointer (some ⟨g, 0, none⟩)) (hr : Row w g k n f t)
    (hu : P.underlying ty = some d) (hdd : (match d with | .struct _ | .array _ _ => true | _ => false) = true) (hi : (P.info? ty).map (·.size) = some n) (hR : R (.returned (.agg (FR k n f))) w) : Code.ret.wp P (bodyPost P fn R) a w :=
  wp_ret ⟨hd, _, row_results h hr hp hu hdd hi, hR⟩
/-- A guard that lets the operation come up, or doesn't. -/
theorem wanted_is {b : Nat → Bool} {G : Nat → Nat} {oi oj : Oper} {j : Nat} {t u : Bool} {N : Tmp} (hg : oi.guard = some (j, t)) (hoj : ops[j]? = some oj) (hN : oj.dst = some N) {sz : Nat} (hsz : a0.tmps.size = sz) (hs : Nat.ble (N + 1) sz = true) (hv : (putSel a0 b (vals G L)).eval (.tmp N) = .bool u) {r : Bool} (hr : (u == t) = r) :
    Region.wanted oi (yielded ops (putSel a0 b (vals G L)).tmps) = r := by
  have hlt : N < (putSel a0 b (vals G L)).tmps.size := by rw [(putSel_size b _ _).1, hsz]; exact Nat.le_of_ble_eq_true hs
  have h1 : (putSel a0 b (vals G L)).tmps[N]? = some (.bool u) := by
    have h2 : (putSel a0 b (vals G L)).tmps.getD N undef = .bool u := hv
    rw [Array.getD_eq_getD_getElem?, Array.getElem?_eq_getElem hlt] at h2
    rw [Array.getElem?_eq_getElem hlt]
    exact congrArg some h2
  unfold Region.wanted yielded
  simp only [hg, hoj, Option.bind_some, hN, h1]
  subst hr
  cases u <;> cases t <;> rfl
/-- A guard whose slot wasn't filled: its operation was kept off, too. -/
theorem wanted_un {b : Nat → Bool} {G : Nat → Nat} {oi oj : Oper} {j : Nat} {t : Bool} {N : Tmp} (hg : oi.guard = some (j, t)) (hoj : ops[j]? = some oj) (hN : oj.dst = some N) {sz : Nat} (hsz : a0.tmps.size = sz) (hs : Nat.ble (N + 1) sz = true) (hv : (putSel a0 b (vals G L)).eval (.tmp N) = undef) :
    Region.wanted oi (yielded ops (putSel a0 b (vals G L)).tmps) = false := by
  have hlt : N < (putSel a0 b (vals G L)).tmps.size := by rw [(putSel_size b _ _).1, hsz]; exact Nat.le_of_ble_eq_true hs
  have h1 : (putSel a0 b (vals G L)).tmps[N]? = some undef := by
    have h2 : (putSel a0 b (vals G L)).tmps.getD N undef = undef := hv
    rw [Array.getD_eq_getD_getElem?, Array.getElem?_eq_getElem hlt] at h2
    rw [Array.getElem?_eq_getElem hlt]
    exact congrArg some h2
  unfold Region.wanted yielded
  simp only [hg, hoj, Option.bind_some, hN, h1]
  cases t <;> rfl
/-- An operation that its guard keeps off. -/
theorem st_skip {N : Tmp} {oi : Oper} (k : Nat) (hoi : ops[i]? = some oi) (hN : oi.dst = some N) (hLo : LOk L) (hL : L[k]? = some (i, N, .val undef)) (hA : (A.all fun x => !(x.born == some i) && !(x.stored == some i)) = true)
    (hw : ∀ b G, Ons B O i b → Offs B O i b → Region.wanted oi (yielded ops (putSel a0 b (vals G L)).tmps) = false) : StepAt P ops Q B O (RI wE a0 L A) i :=
  st_keep k (.val undef) hoi hN hLo hL hA (fun b G w K hB hon hoff hR hK => by
    rw [if_neg (by rw [hw b G hon hoff]; decide)]
    exact hK w (Below.refl _ _))
/-- A pure operation that looks at what is held. -/
theorem st_read {N : Tmp} {oi : Oper} (k r : Nat) (x : Ent) (v : SV) (hx : A[r]? = some x) (hoi : ops[i]? = some oi) (hN : oi.dst = some N) (hLo : LOk L) (hL : L[k]? = some (i, N, v))
    (hA : (A.all fun x => !(x.born == some i) && !(x.stored == some i)) = true) (hw : ∀ b G, Ons B O i b → Offs B O i b → Region.wanted oi (yielded ops (putSel a0 b (vals G L)).tmps) = true)
    (hbo : onB B O i x.born = true) (hst : offB B O i x.stored = true) (hrun : ∀ b G w, Ons B O i b → Offs B O i b → Row w (x.ad G) x.k x.n x.f0 x.t → (execOp (putSel a0 b (vals G L)).eval oi).run P w = .ok (.value (v.at G)) w) : StepAt P ops Q B O (RI wE a0 L A) i :=
  st_keep k v hoi hN hLo hL hA (fun b G w K hB hon hoff hR hK => by
    have h := (hR x (List.mem_of_getElem? hx) (onB_is hbo hon)).2
    have e : x.f b = x.f0 := by unfold Ent.f; rw [offB_is hst hoff]; rfl
    rw [e] at h
    exact event_step (hw b G hon hoff) (hrun b G w hon hoff h) (hK _ (Below.refl _ _)))
/-- Any store into a row that is held. -/
theorem st_put {oi : Oper} (r : Nat) (x : Ent) (hx : A[r]? = some x) (hxs : x.stored = some i) (hoi : ops[i]? = some oi) (hN : oi.dst = none) (hw : ∀ b G, Ons B O i b → Offs B O i b → Region.wanted oi (yielded ops (putSel a0 b (vals G L)).tmps) = true)
    (hL : (L.all fun e => !(e.1 == i)) = true) (hA : (A.all fun x => !(x.born == some i)) = true) (hAs : ((A.take r ++ A.drop (r + 1)).all fun x => !(x.stored == some i)) = true) (hbo : onB B O i x.born = true)
    (hrun : ∀ b G w, Ons B O i b → Offs B O i b → Row w (x.ad G) x.k x.n x.f0 x.t → ∃ w', (execOp (putSel a0 b (vals G L)).eval oi).run P w = .ok .skip w' ∧ Stored w w' (x.ad G) ∧ Row w' (x.ad G) x.k x.n x.f1 x.t) : StepAt P ops Q B O (RI wE a0 L A) i := by
  rintro b a w ⟨G, rfl, hB, hR, hD⟩ hb hon hoff
  have hxm := List.mem_of_getElem? hx
  have h0 := hR x hxm (onB_is hbo hon)
  have e0 : x.f b = x.f0 := by unfold Ent.f; rw [hxs]; exact if_neg (by rw [show isOn b false (some i) = b i from rfl, hb]; decide)
  rw [e0] at h0
  obtain ⟨w', hr1, hs, hr⟩ := hrun b G w hon hoff h0.2
  refine ⟨oi, hoi, fun K hK => ?_⟩
  rw [if_pos (hw b G hon hoff)]
  unfold Oper.wp
  rw [hr1, Oper.upon_skip]
  rw [hN]
  refine hK _ _ ⟨G, (putSel_same (by unfold vals; rw [List.all_map]; exact hL)).symm, hs.bel _ _ h0.1 hB, fun z hz hbz => ?_, ?_⟩
  · have hzb := List.all_eq_true.1 hA z hz
    rw [Bool.not_eq_true'] at hzb
    rw [isOn_up hzb] at hbz
    obtain ⟨j, hj⟩ := List.getElem?_of_mem hz
    by_cases hjr : j = r
    · subst hjr
      rw [hx] at hj
      obtain rfl := Option.some.inj hj
      have e : x.f (up b i) = x.f1 := by unfold Ent.f; rw [hxs]; exact if_pos (up_self b i)
      rw [e]
      exact ⟨h0.1, hr⟩
    · have hm : z ∈ A.take r ++ A.drop (r + 1) := by
        rw [List.mem_append]
        by_cases hlt : j < r
        · left; exact List.mem_of_getElem? (i := j) (by rw [List.getElem?_take_of_lt hlt]; exact hj)
        · right; exact List.mem_of_getElem? (i := j - (r + 1)) (by rw [List.getElem?_drop]; rw [show r + 1 + (j - (r + 1)) = j by omega]; exact hj)
      have h2 := List.all_eq_true.1 hAs z hm
      rw [Bool.not_eq_true'] at h2
      have e : z.f (up b i) = z.f b := by unfold Ent.f; rw [isOn_up h2]
      rw [e]
      have hz0 := hR z hz hbz
      refine ⟨hz0.1, hz0.2.stored hs ?_⟩
      rw [List.pairwise_iff_getElem] at hD
      obtain ⟨hjl, hje⟩ := List.getElem?_eq_some_iff.1 hj
      obtain ⟨hrl, hre⟩ := List.getElem?_eq_some_iff.1 hx
      by_cases hlt : j < r
      · have := hD j r hjl hrl hlt (by rw [hje]; exact hbz) (by rw [hre]; exact onB_is hbo hon)
        rwa [hje, hre] at this
      · have := hD r j hrl hjl (by omega) (by rw [hre]; exact onB_is hbo hon) (by rw [hje]; exact hbz)
        rw [hje, hre] at this
        exact fun e => this e.symm
  · refine hD.imp_of_mem (fun {z y} hz hy h h1 h2 => ?_)
    have hz2 := List.all_eq_true.1 hA z hz
    have hy2 := List.all_eq_true.1 hA y hy
    rw [Bool.not_eq_true'] at hz2 hy2
    rw [isOn_up hz2] at h1
    rw [isOn_up hy2] at h2
    exact h h1 h2
theorem exec_move {o : Oper} {ev : Operand → Value} {w : World} {x : Operand} {v : Value} (ho : o.op = .move x ∨ o.op = .assign x) (hx : ev x = v) : (execOp ev o).run P w = .ok (.value v) w := by
  unfold execOp
  rcases ho with ho | ho <;> simp only [ho, hx, Sem.run_pure]
theorem exec_bin {o : Oper} {ev : Operand → Value} {w : World} {op : BinOp} {t u : TypeId} {x y : Operand} {a b v : Value} (ho : o.op = .binOp op t x y u) (hx : ev x = a) (hy : ev y = b) (h : (do eqGuard op t x y a b; binOp op t a b : Sem Value).run P w = .ok v w) : (execOp ev o).run P w = .ok (.value v) w := by
  unfold execOp
  simp only [ho, hx, hy]
  rw [Sem.run_bind, h]
  rfl
theorem exec_un {o : Oper} {ev : Operand → Value} {w : World} {op : UnOp} {t : TypeId} {x : Operand} {a v : Value} (ho : o.op = .unOp op t x) (hx : ev x = a) (h : (Op.unary op a).run P w = .ok v w) : (execOp ev o).run P w = .ok (.value v) w := by
  unfold execOp
  simp only [ho, hx]
  rw [Sem.run_bind, h]
  rfl
theorem exec_extract {o : Oper} {ev : Operand → Value} {w : World} {x : Operand} {n : Nat} {a v : Value} (ho : o.op = .extract x n) (hx : ev x = a) (h : (Instr.extract a n).run P w = .ok v w) : (execOp ev o).run P w = .ok (.value v) w := by
  unfold execOp
  simp only [ho, hx]
  rw [Sem.run_bind, h]
  rfl
theorem exec_pick {o : Oper} {ev : Operand → Value} {w : World} {c x y : Operand} {t : Bool} {v : Value} (ho : o.op = .pick c x y) (hc : ev c = .bool t) (hx : ev (if t then x else y) = v) : (execOp ev o).run P w = .ok (.value v) w := by
  unfold execOp
  simp only [ho, hc]
  cases t <;> simp_all [asBool]
theorem exec_index {o : Oper} {ev : Operand → Value} {w : World} {t : TypeId} {x y : Operand} {a b v : Value} (ho : o.op = .index t x y) (hx : ev x = a) (hy : ev y = b) (h : (Instr.index t a b).run P w = .ok v w) : (execOp ev o).run P w = .ok (.value v) w := by
  unfold execOp
  simp only [ho, hx, hy]
  rw [Sem.run_bind, h]
  rfl
theorem exec_indexAddr {o : Oper} {ev : Operand → Value} {w : World} {t : TypeId} {x y : Operand} {a b v : Value} (ho : o.op = .indexAddr t x y) (hx : ev x = a) (hy : ev y = b) (h : (Instr.indexAt t a b).run P w = .ok v w) : (execOp ev o).run P w = .ok (.value v) w := by
  unfold execOp
  simp only [ho, hx, hy]
  rw [Sem.run_bind, h]
  rfl
/-- One number of a row. -/
theorem exec_cell {o : Oper} {ev : Operand → Value} {w : World} {k : IntKind} {n g j : Nat} {f : Nat → Int} {t ty : TypeId} {x : Operand} {d : TypeDesc} (hr : Row w g k n f t) (hj : j < n) (hu : P.underlying ty = some d) (hd : (match d with | .struct _ | .array _ _ => false | _ => true) = true) (ho : o.op = .load ty x) (hx : ev x = .pointer (some ⟨g, j, none⟩)) :
    (execOp ev o).run P w = .ok (.value (.int k (f j))) w := by
  have ha : (isAgg ty).run P w = .ok false w := by
    simp only [isAgg, Sem.run_bind, run_underlying hu, Result.andThen_ok]
    cases d <;> simp_all
  unfold execOp
  simp only [ho, hx, Instr.loadAt, Instr.sureAddr, Sem.run_bind, Sem.run_pure, Result.andThen_ok, loadVar, ha, Bool.false_eq_true, if_false, run_load, hr.cell j hj]
/-- m numbers from o on are v's. -/
def updR (f : Nat → Int) (o m : Nat) (v : Nat → Int) (j : Nat) : Int := if o ≤ j ∧ j < o + m then v (j - o) else f j
theorem setCells_FR {g : Nat} {k : IntKind} {n : Nat} {v : Nat → Int} {t : TypeId} {o : Nat} : ∀ (m : Nat) (s : Nat) (w : World) (f : Nat → Int), Row w g k n f t → o + s + m ≤ n → Row (w.setCells g (o + s) ((List.range' s m).map fun j => .int k (v j))) g k n (fun j => if o + s ≤ j ∧ j < o + s + m then v (j - o) else f j) t
  | 0, s, w, f, h, _ => by
    have e : (fun j => if o + s ≤ j ∧ j < o + s + 0 then v (j - o) else f j) = f := by funext j; rw [if_neg (by omega)]
    rw [e]; exact h
  | m + 1, s, w, f, h, hm => by
    have h1 := h.set (o + s) (v s) (by omega)
    have h2 := setCells_FR (v := v) (o := o) m (s + 1) _ _ h1 (by omega)
    have e : (fun j => if o + s ≤ j ∧ j < o + s + (m + 1) then v (j - o) else f j) = fun j => if o + (s + 1) ≤ j ∧ j < o + (s + 1) + m then v (j - o) else upd f (o + s) (v s) j := by
      funext j
      unfold upd
      by_cases hj : j = o + s
      · subst hj
        rw [if_pos (by omega), if_neg (by omega), if_pos rfl]
        congr 1; omega
      · by_cases hj2 : o + (s + 1) ≤ j ∧ j < o + (s + 1) + m
        · rw [if_pos (by omega), if_pos hj2]
        · rw [if_neg (by omega), if_neg hj2, if_neg hj]
    rw [e]
    exact h2
theorem FR_list (k : IntKind) (m : Nat) (v : Nat → Int) : (FR k m v).toList = (List.range' 0 m).map fun j => .int k (v j) := by
  apply List.ext_getElem?
  intro j
  rw [Array.getElem?_toList, List.getElem?_map]
  by_cases hj : j < m
  · rw [FR_at _ _ _ _ hj, List.getElem?_range' hj]
    simp
  · rw [FR_out _ _ _ _ hj, List.getElem?_eq_none (by simp; omega)]
    rfl
theorem Row.part {w : World} {g : Nat} {k : IntKind} {n : Nat} {f : Nat → Int} {t : TypeId} (h : Row w g k n f t) (o m : Nat) (v : Nat → Int) (hm : o + m ≤ n) : Row (w.setCells g o (FR k m v).toList) g k n (updR f o m v) t := by
  rw [FR_list]
  exact setCells_FR (v := v) (o := o) m 0 w f h (by omega)
theorem stored_cells (w : World) (g o : Nat) (vs : List Value) : Stored w (w.setCells g o vs) g := ⟨fun k hk => setCells_other hk _ _ _, setCells_size g _ _ _, fun B W hB hb => bel_setCells hB _ _ _ hb⟩
/-- A store of m numbers at o: the run. -/
theorem exec_part {o : Oper} {ev : Operand → Value} {w : World} {k : IntKind} {n g off m : Nat} {f v : Nat → Int} {t ty : TypeId} {x y : Operand} (hr : Row w g k n f t) (hm : off + m ≤ n) (hi : (P.info? ty).map (·.size) = some m) (ho : o.op = .store ty x y) (hx : ev x = .pointer (some ⟨g, off, none⟩)) (hy : ev y = .agg (FR k m v)) :
    ∃ w', (execOp ev o).run P w = .ok .skip w' ∧ Stored w w' g ∧ Row w' g k n (updR f off m v) t := by
  refine ⟨_, ?_, stored_cells w g off (FR k m v).toList, hr.part off m v hm⟩
  unfold execOp
  simp only [ho, hx, hy]
  rw [Sem.run_bind, run_storeAt_mid w g off ty (FR k m v) (fun j hj => by rw [FR_size] at hj; exact ⟨by rw [hr.cell _ (by omega)]; rfl, hr.fro _⟩) (by rw [FR_size]; exact hi) (Array.all_eq_true_iff_forall_mem.2 fun v hv => FR_one k m _ v (by simpa using hv))]
  rfl
/-- A store of one number: the run. -/
theorem exec_put1 {o : Oper} {ev : Operand → Value} {w : World} {k : IntKind} {n g j : Nat} {f : Nat → Int} {z : Int} {t ty : TypeId} {x y : Operand} (hr : Row w g k n f t) (hj : j < n) (hi : (P.info? ty).map (·.size) = some 1) (ho : o.op = .store ty x y) (hx : ev x = .pointer (some ⟨g, j, none⟩)) (hy : ev y = .int k z) :
    ∃ w', (execOp ev o).run P w = .ok .skip w' ∧ Stored w w' g ∧ Row w' g k n (upd f j z) t := by
  obtain ⟨ie, hie, hs⟩ : ∃ ie, P.info? ty = some ie ∧ ie.size = 1 := by
    cases he : P.info? ty with
    | none => rw [he] at hi; cases hi
    | some ie => rw [he] at hi; exact ⟨ie, rfl, Option.some.inj hi⟩
  refine ⟨w.setCell ⟨g, j, none⟩ (.int k z), ?_, ⟨fun q hq => heap_setCell_other _ _ _ _ hq, by simp [World.setCell], fun B W hB hb => hb.setCell hB _⟩, hr.set j z hj⟩
  unfold execOp
  simp only [ho, hx, hy]
  have hti : (typeInfo ty).run P w = .ok ie w := by simp [typeInfo, hie]
  have h1 : (Instr.storeAt ty (.pointer (some ⟨g, j, none⟩)) (.int k z)).run P w = .ok () (w.setCell ⟨g, j, none⟩ (.int k z)) := by
    have hsz : (Value.int k z).cells.size = 1 := rfl
    simp only [Instr.storeAt, Instr.sureAddr, Sem.run_bind, Sem.run_pure, Result.andThen_ok, storeVar, sizeOf, hti, hs, hsz, ne_eq, not_true_eq_false, if_false]
    have hcl : (Value.int k z).cells.toList = [.int k z] := rfl
    rw [hcl]
    have := run_storeCells_cells (P := P) g j [.int k z] 0 w (fun q hq => (by
      obtain rfl : q = 0 := (by simpa using hq)
      rw [Nat.add_zero, hr.cell j hj]; rfl)) (fun q hq => hr.fro _) (fun v hv => (by
      simp only [List.mem_singleton] at hv
      subst hv; rfl))
    simpa [World.setCells] using this
  rw [Sem.run_bind, h1]
  rfl
theorem b_row {fn : Func} {R : Ending → World → Prop} {p : Tmp} {ty : TypeId} {a : Act} {w : World} {g n : Nat} {k : IntKind} {f : Nat → Int} {t : TypeId} {d : TypeDesc} (h : fn.results = #[.cell p ty]) (hd : a.defers = []) (hp : a.eval (.tmp p) = .pointer (some ⟨g, 0, none⟩)) (hr : Row w g k n f t)
    (hu : P.underlying ty = some d) (hdd : (match d with | .struct _ | .array _ _ => true | _ => false) = true) (hi : (P.info? ty).map (·.size) = some n) (hR : R (.returned (.agg (FR k n f))) w) : bodyPost P fn R .ret a w :=
  ⟨hd, _, row_results h hr hp hu hdd hi, hR⟩
theorem b_tmp {fn : Func} {R : Ending → World → Prop} {p : Tmp} {a : Act} {w : World} {v : Value} (h : fn.results = #[.tmp p]) (hd : a.defers = []) (hp : a.eval (.tmp p) = v) (hR : R (.returned v) w) : bodyPost P fn R .ret a w :=
  ⟨hd, v, by have hp' : a.tmps.getD p undef = v := hp; rw [← hp']; exact results_tmp h _ _ _, hR⟩
theorem b_row2 {fn : Func} {R : Ending → World → Prop} {p q : Tmp} {ty : TypeId} {a : Act} {w : World} {g n : Nat} {k : IntKind} {f : Nat → Int} {t : TypeId} {d : TypeDesc} {v : Value} (h : fn.results = #[.cell p ty, .tmp q]) (hd : a.defers = []) (hp : a.eval (.tmp p) = .pointer (some ⟨g, 0, none⟩)) (hq : a.eval (.tmp q) = v) (hr : Row w g k n f t)
    (hu : P.underlying ty = some d) (hdd : (match d with | .struct _ | .array _ _ => true | _ => false) = true) (hi : (P.info? ty).map (·.size) = some n) (hR : R (.returned (.tuple #[.agg (FR k n f), v])) w) : bodyPost P fn R .ret a w := by
  refine ⟨hd, .tuple #[.agg (FR k n f), v], ?_, hR⟩
  have hp' : a.tmps[p]?.getD undef = .pointer (some ⟨g, 0, none⟩) := by rw [← Array.getD_eq_getD_getElem?]; exact hp
  have hq' : a.tmps[q]?.getD undef = v := by rw [← Array.getD_eq_getD_getElem?]; exact hq
  simp [results, h, hp', hq', asAddr, run_loadVar_row w g t ty _ _ d hr hu hdd (by rw [FR_size]; exact hi)]
theorem exec_slice {o : Oper} {ev : Operand → Value} {w : World} {t : TypeId} {x : Operand} {lo hi mx : Option Operand} {a v : Value} {l h m : Option Value} (ho : o.op = .slice t x lo hi mx) (hx : ev x = a) (hl : lo.map ev = l) (hh : hi.map ev = h) (hm : mx.map ev = m) (hr : (Instr.sliceAt t a l h m).run P w = .ok v w) : (execOp ev o).run P w = .ok (.value v) w := by
  unfold execOp
  simp only [ho, hx, hl, hh, hm]
  rw [Sem.run_bind, hr]
  rfl
theorem then_exit {K : Act → World → Prop} {a : Act} {w : World} {id : Nat} (h : Q (.exit id) a w) : Exit.then K Q (.exit id) a w := h
theorem inBlock_exit {a : Act} {w : World} {id : Nat} (h : Q .normal a w) : Exit.inBlock id Q (.exit id) a w := by unfold Exit.inBlock; simp only [if_true]; exact h
theorem inBlock_normal {a : Act} {w : World} {id : Nat} (h : Q .normal a w) : Exit.inBlock id Q .normal a w := h
end
end Go.Proofs.YtaaipbhfikefaaaDoor.P
end

section
namespace Go.Proofs.YtaaipbhfikefaaaDoor.P
set_option linter.unusedVariables false
set_option linter.unusedSimpArgs false
open Go.RowKit Go.ChangeShapes Go.WideShapes Go.Proofs.YtaaipbhfikefaaaDoorW.PrintWords Go.Proofs.YtaaipbhfikefaaaDoorW.PrintLast Go.Proofs.YtaaipbhfikefaaaDoorW.PrintMore
open Go.Proofs.YtaaipbhfikefaaaDoor.P.Fd
theorem infoPt : (Tryd.prog.info? 28).map (·.size) = some 20 := by kernel_rfl
theorem infoEl : (Tryd.prog.info? 26).map (·.size) = some 5 := by kernel_rfl
theorem infoB3 : (Tryd.prog.info? 22).map (·.size) = some 32 := by kernel_rfl
/-- A part of a row. -/
def co (F : Nat → Int) (o j : Nat) : Int := F (o + j)
def pt4 (a b c d : Nat → Int) (i : Nat) : Int := if i < 5 then a i else if i < 10 then b (i - 5) else if i < 15 then c (i - 10) else d (i - 15)
def pr4 (a b c d : Nat → Int) (i : Nat) : Int := if i < 16 then a i else if i < 32 then b (i - 16) else if i < 48 then c (i - 32) else d (i - 48)
theorem build_pt (a b c d : Nat → Int) (w : World) : (Instr.build 28 #[(0, .agg (FR .u64 5 a)), (1, .agg (FR .u64 5 b)), (2, .agg (FR .u64 5 c)), (3, .agg (FR .u64 5 d))]).run Tryd.prog w = .ok (.agg (FR .u64 20 (pt4 a b c d))) w := by kernel_rfl
theorem build_z (b c : Nat → Int) (w : World) : (Instr.build 28 #[(1, .agg (FR .u64 5 b)), (2, .agg (FR .u64 5 c))]).run Tryd.prog w = .ok (.agg (FR .u64 20 (pt4 (fun _ => 0) b c fun _ => 0))) w := by kernel_rfl
/-- The curve's number. -/
def dL : List Int := [163, 120, 89, 19, 202, 77, 235, 117, 171, 216, 65, 65, 77, 10, 112, 0, 152, 232, 121, 119, 121, 64, 199, 140, 115, 254, 111, 43, 238, 108, 3, 82]
def dB (j : Nat) : Int := dL.getD j 0
theorem dB_By : By dB := fun j hj => by
  have h : ∀ j, j < 32 → 0 ≤ dB j ∧ dB j < 256 := by decide
  exact h j hj
def TabD (w : World) : Prop := ∀ j, j < 32 → w.cell? ((⟨0, 0, none⟩ : Addr).add j) = some (.int .u8 (dB j))
theorem TabD.lt {w : World} (h : TabD w) : 0 < w.heap.size := block_lt_of_cell (h 0 (by omega))
theorem TabD.below {w w' : World} {B : Nat} (h : TabD w) (hb : Below B w w') (hB : 0 < B) : TabD w' := fun j hj => by
  rw [hb.cell (p := (⟨0, 0, none⟩ : Addr).add j) (by unfold Addr.add; split <;> exact hB)]; exact h j hj
theorem TabD.at {w : World} (h : TabD w) (w' : World) (hb : Below w.heap.size w w') : ∀ j, j < 32 → w'.cell? ((⟨0, 0, none⟩ : Addr).add j) = some (.int .u8 (dB j)) := h.below hb h.lt
theorem lmul {f g : Nat → Int} (hf : Lm f) (hg : Lm g) : Lm (mulE f g) := (Fe.mul (n := V51 f) (m := V51 g) ⟨hf, rfl⟩ ⟨hg, rfl⟩).1
theorem ladd {f g : Nat → Int} (hf : Lm f) (hg : Lm g) : Lm (addE f g) := (Fe.add (n := V51 f) (m := V51 g) ⟨hf, rfl⟩ ⟨hg, rfl⟩).1
theorem lsub {f g : Nat → Int} (hf : Lm f) (hg : Lm g) : Lm (subE f g) := (Fe.sub (n := V51 f) (m := V51 g) ⟨hf, rfl⟩ ⟨hg, rfl⟩).1
theorem lneg {g : Nat → Int} (hg : Lm g) : Lm (negE g) := (Fe.neg (m := V51 g) ⟨hg, rfl⟩).1
theorem linv {g : Nat → Int} (hg : Lm g) : Lm (invE g) := (Fe.inv (n := V51 g) ⟨hg, rfl⟩).1
theorem lof {b : Nat → Int} (hb : By b) : Lm (carr (ofL b)) := (Fe.of b hb).1
theorem rmul {f g : Nat → Int} (hf : Rn f) (hg : Rn g) : Rn (mulR f g) := (Re.mul (n := V16 f) (m := V16 g) ⟨hf, rfl⟩ ⟨hg, rfl⟩).1
theorem radd {f g : Nat → Int} (hf : Rn f) (hg : Rn g) : Rn (addR f g) := (Re.add (n := V16 f) (m := V16 g) ⟨hf, rfl⟩ ⟨hg, rfl⟩).1
theorem rsub {f g : Nat → Int} (hf : Rn f) (hg : Rn g) : Rn (subR f g) := (Re.sub (n := V16 f) (m := V16 g) ⟨hf, rfl⟩ ⟨hg, rfl⟩).1
def PL (F : Nat → Int) : Prop := Lm (co F 0) ∧ Lm (co F 5) ∧ Lm (co F 10) ∧ Lm (co F 15)
def PR (F : Nat → Int) : Prop := Rn (co F 0) ∧ Rn (co F 16) ∧ Rn (co F 32) ∧ Rn (co F 48)
theorem lm_same {f g : Nat → Int} (h : ∀ j, j < 5 → f j = g j) (hf : Lm f) : Lm g :=
  ⟨fun j hj => by rw [← h j (by omega)]; exact hf.1 j hj, by rw [← h 4 (by omega)]; exact hf.2⟩
theorem rn_same {f g : Nat → Int} (h : ∀ j, j < 16 → f j = g j) (hf : Rn f) : Rn g :=
  ⟨fun j hj h0 => by rw [← h j hj]; exact hf.1 j hj h0, by rw [← h 0 (by omega)]; exact hf.2⟩
theorem co_pt {a b c d : Nat → Int} : (∀ j, j < 5 → a j = co (pt4 a b c d) 0 j) ∧ (∀ j, j < 5 → b j = co (pt4 a b c d) 5 j) ∧ (∀ j, j < 5 → c j = co (pt4 a b c d) 10 j) ∧ (∀ j, j < 5 → d j = co (pt4 a b c d) 15 j) := by
  unfold co pt4
  refine ⟨fun j hj => ?_, fun j hj => ?_, fun j hj => ?_, fun j hj => ?_⟩
  · rw [if_pos (by omega), Nat.zero_add]
  · rw [if_neg (by omega), if_pos (by omega)]; congr 1; omega
  · rw [if_neg (by omega), if_neg (by omega), if_pos (by omega)]; congr 1; omega
  · rw [if_neg (by omega), if_neg (by omega), if_neg (by omega)]; congr 1; omega
theorem co_pr {a b c d : Nat → Int} : (∀ j, j < 16 → a j = co (pr4 a b c d) 0 j) ∧ (∀ j, j < 16 → b j = co (pr4 a b c d) 16 j) ∧ (∀ j, j < 16 → c j = co (pr4 a b c d) 32 j) ∧ (∀ j, j < 16 → d j = co (pr4 a b c d) 48 j) := by
  unfold co pr4
  refine ⟨fun j hj => ?_, fun j hj => ?_, fun j hj => ?_, fun j hj => ?_⟩
  · rw [if_pos (by omega), Nat.zero_add]
  · rw [if_neg (by omega), if_pos (by omega)]; congr 1; omega
  · rw [if_neg (by omega), if_neg (by omega), if_pos (by omega)]; congr 1; omega
  · rw [if_neg (by omega), if_neg (by omega), if_neg (by omega)]; congr 1; omega
theorem pl_pt {a b c d : Nat → Int} (ha : Lm a) (hb : Lm b) (hc : Lm c) (hd : Lm d) : PL (pt4 a b c d) := ⟨lm_same co_pt.1 ha, lm_same co_pt.2.1 hb, lm_same co_pt.2.2.1 hc, lm_same co_pt.2.2.2 hd⟩
theorem pr_pr {a b c d : Nat → Int} (ha : Rn a) (hb : Rn b) (hc : Rn c) (hd : Rn d) : PR (pr4 a b c d) := ⟨rn_same co_pr.1 ha, rn_same co_pr.2.1 hb, rn_same co_pr.2.2.1 hc, rn_same co_pr.2.2.2 hd⟩
end Go.Proofs.YtaaipbhfikefaaaDoor.P
end

section
namespace Go.Proofs.YtaaipbhfikefaaaDoor.P
set_option linter.unusedVariables false
set_option linter.unusedSimpArgs false
open Go.RowKit Go.ChangeShapes Go.WideShapes Go.Proofs.YtaaipbhfikefaaaDoorW.PrintWords Go.Proofs.YtaaipbhfikefaaaDoorW.PrintLast Go.Proofs.YtaaipbhfikefaaaDoorW.PrintMore
open Go.Proofs.YtaaipbhfikefaaaDoor.P.Fd
def zeroP : Nat → Int := pt4 (fun _ => 0) (smL 1) (smL 1) fun _ => 0
theorem zero_pt (w : World) : Calls Tryd.prog 10 #[] w fun e w' => e = .returned (.agg (FR .u64 20 zeroP)) ∧ Below w.heap.size w w' := by
  refine enter_ 4 Tryd.func10 rfl rfl (fun a0 hS => ?_)
  have HS0 : Sl a0 4 [] := hS
  have HH0 : Held w w [] := Held.first w
  clear hS
  refine wp_seq ?_
  have hLo : LOk [(0, 0, .ptr 0 0)] := ⟨show ([0] : List Nat).Nodup by decide, show ([0] : List Nat).Nodup by decide⟩
  refine plain_ (wE := w) (sz := 4) (n := 1) [0] [(0, .ptr 0 0)] [(0, 0, .ptr 0 0)] [⟨0, some 0, none, .u64, 20, fun _ => 0, fun _ => 0, 28⟩] rfl (by rfl) HH0 rfl rfl hLo rfl HS0 (slL 0 (d := 0) rfl (trivial)) ?_ ?_
  · show ∀ i ∈ [0], _
    refine steps_cons (st_alloc 0 0 .u64 20 28 none _ _ rfl rfl (fun _ _ _ _ => rfl) rfl hLo rfl rfl rfl rfl (by rfl) (fun b G w _ _ => by kernel_rfl)) ?_
    exact steps_nil
  clear hLo
  intro G a1 w1 hS hH
  have HS1 : Sl a1 4 [(0, .pointer (some ⟨(G 0), 0, none⟩))] := hS
  have HH1 : Held w w1 [⟨(G 0), .u64, 20, fun _ => 0, 28⟩] := hH
  clear hS hH HS0 HH0
  generalize G 0 = g1_0 at HS1 HH1
  refine then_ ?_
  refine wp_seq ?_
  have hLo : LOk [(0, 1, .val (.agg (FR .u64 5 (smL 1)))), (1, 2, .val (.agg (FR .u64 5 (smL 1)))), (2, 3, .val (.agg (FR .u64 20 (pt4 (fun _ => 0) (smL 1) (smL 1) fun _ => 0))))] := ⟨show ([0, 1, 2] : List Nat).Nodup by decide, show ([1, 2, 3] : List Nat).Nodup by decide⟩
  refine plain_ (wE := w) (sz := 4) (n := 4) [0, 1, 3, 7] [(0, .val (.pointer (some ⟨g1_0, 0, none⟩)))] [(0, 1, .val (.agg (FR .u64 5 (smL 1)))), (1, 2, .val (.agg (FR .u64 5 (smL 1)))), (2, 3, .val (.agg (FR .u64 20 (pt4 (fun _ => 0) (smL 1) (smL 1) fun _ => 0))))] [⟨g1_0, none, some 3, .u64, 20, fun _ => 0, pt4 (fun _ => 0) (smL 1) (smL 1) fun _ => 0, 28⟩] rfl (by rfl) HH1 rfl rfl hLo rfl HS1 (slS 0 rfl rfl (trivial)) ?_ ?_
  · show ∀ i ∈ [0, 1, 2, 3], _
    refine steps_cons (st_call 0 _ #[.int .u32 1] rfl rfl rfl (fun _ _ _ _ => rfl) hLo rfl rfl Tryd.func27 rfl rfl (fun b G hb ho => args1 (rfl)) (fun w hw => Fd.small_elem_calls 1 w (by omega))) ?_
    refine steps_cons (st_call 1 _ #[.int .u32 1] rfl rfl rfl (fun _ _ _ _ => rfl) hLo rfl rfl Tryd.func27 rfl rfl (fun b G hb ho => args1 (rfl)) (fun w hw => Fd.small_elem_calls 1 w (by omega))) ?_
    refine steps_cons (st_run 2 _ rfl rfl hLo rfl rfl (fun _ _ _ _ => rfl) (fun b G w hb ho => exec_build rfl (parts2 (ev_on hLo 0 rfl HS1.1 rfl (hb 0 (by rfl))) (ev_on hLo 1 rfl HS1.1 rfl (hb 1 (by rfl)))) (build_z _ _ _))) ?_
    refine steps_cons (st_store 0 _ rfl rfl rfl rfl rfl (fun _ _ _ _ => rfl) rfl rfl rfl (by rfl) infoPt (fun b G hb ho => ev_off rfl (HS1.get 0 rfl)) (fun b G hb ho => ev_on hLo 2 rfl HS1.1 rfl (hb 2 (by rfl)))) ?_
    exact steps_nil
  clear hLo
  intro G a2 w2 hS hH
  have HS2 : Sl a2 4 [(0, .pointer (some ⟨g1_0, 0, none⟩))] := hS
  have HH2 : Held w w2 [⟨g1_0, .u64, 20, pt4 (fun _ => 0) (smL 1) (smL 1) fun _ => 0, 28⟩] := hH
  clear hS hH HS1 HH1
  refine then_ ?_
  exact ret_row rfl HS2.2.1 (HS2.get 0 rfl) (HH2.row 0 rfl) Tryd.underlying28 rfl infoPt ⟨rfl, HH2.1⟩
def negP (F : Nat → Int) : Nat → Int := pt4 (negE (co F 0)) (co F 5) (co F 10) (negE (co F 15))
theorem tabadd_2 : rtab .any (opsOf Tryd.f18 2) = (true, [([], []), ([0], [0]), ([], []), ([2], [2]), ([1, 3], [1, 3]), ([], []), ([5], [5]), ([], []), ([7], [7]), ([6, 8, 4], [6, 8]), ([4, 9, 9], [4, 9]), ([], []), ([11, 10, 10, 0, 1, 2, 3, 4, 5, 6, 7, 8, 9, 10, 11], [10, 11])]) := by kernel_rfl
theorem bitsadd_2 : waitsOk [([], []), ([0], [0]), ([], []), ([2], [2]), ([1, 3], [1, 3]), ([], []), ([5], [5]), ([], []), ([7], [7]), ([6, 8, 4], [6, 8]), ([4, 9, 9], [4, 9]), ([], []), ([11, 10, 10, 0, 1, 2, 3, 4, 5, 6, 7, 8, 9, 10, 11], [10, 11])] [0, 1, 0, 4, 15, 0, 32, 0, 128, 511, 1023, 0, 4095] = true := by kernel_rfl
theorem tabadd_3 : rtab .any (opsOf Tryd.f18 3) = (true, [([], []), ([0], [0]), ([], []), ([2], [2]), ([1, 3], [1, 3]), ([], []), ([5], [5]), ([], []), ([7], [7]), ([6, 8, 4], [6, 8]), ([4, 9, 9], [4, 9]), ([], []), ([11, 10, 10, 0, 1, 2, 3, 4, 5, 6, 7, 8, 9, 10, 11], [10, 11])]) := by kernel_rfl
theorem bitsadd_3 : waitsOk [([], []), ([0], [0]), ([], []), ([2], [2]), ([1, 3], [1, 3]), ([], []), ([5], [5]), ([], []), ([7], [7]), ([6, 8, 4], [6, 8]), ([4, 9, 9], [4, 9]), ([], []), ([11, 10, 10, 0, 1, 2, 3, 4, 5, 6, 7, 8, 9, 10, 11], [10, 11])] [0, 1, 0, 4, 15, 0, 32, 0, 128, 511, 1023, 0, 4095] = true := by kernel_rfl
theorem tabadd_4 : rtab .any (opsOf Tryd.f18 4) = (true, [([], []), ([0], [0]), ([], []), ([2], [2]), ([1, 3], [1, 3]), ([], []), ([5, 4], [5]), ([4, 6, 6], [4, 6]), ([], []), ([7, 8, 7], [7, 8]), ([], []), ([10, 9, 9, 0, 1, 2, 3, 4, 5, 6, 7, 8, 9, 10], [9, 10])]) := by kernel_rfl
theorem bitsadd_4 : waitsOk [([], []), ([0], [0]), ([], []), ([2], [2]), ([1, 3], [1, 3]), ([], []), ([5, 4], [5]), ([4, 6, 6], [4, 6]), ([], []), ([7, 8, 7], [7, 8]), ([], []), ([10, 9, 9, 0, 1, 2, 3, 4, 5, 6, 7, 8, 9, 10], [9, 10])] [0, 1, 0, 4, 15, 0, 63, 127, 0, 511, 0, 2047] = true := by kernel_rfl
theorem tabadd_5 : rtab .any (opsOf Tryd.f18 5) = (true, [([], []), ([0], [0]), ([], []), ([2], [2]), ([1, 3], [1, 3]), ([], []), ([4, 5, 4], [4, 5]), ([], []), ([7, 6, 6, 0, 1, 2, 3, 4, 5, 6, 7], [6, 7])]) := by kernel_rfl
theorem bitsadd_5 : waitsOk [([], []), ([0], [0]), ([], []), ([2], [2]), ([1, 3], [1, 3]), ([], []), ([4, 5, 4], [4, 5]), ([], []), ([7, 6, 6, 0, 1, 2, 3, 4, 5, 6, 7], [6, 7])] [0, 1, 0, 4, 15, 0, 63, 0, 255] = true := by kernel_rfl
theorem tabadd_6 : rtab .any (opsOf Tryd.f18 6) = (true, [([], []), ([], []), ([0, 1], [0, 1]), ([], []), ([], []), ([3, 4, 2], [3, 4]), ([], []), ([], []), ([6, 7, 5], [6, 7]), ([], []), ([], []), ([9, 10, 8], [9, 10]), ([], []), ([], []), ([], []), ([], []), ([12, 2, 11, 0, 1, 2, 12, 13, 14, 15], [2, 12]), ([13, 5, 16, 0, 1, 2, 3, 4, 5, 12, 13, 14, 15, 16], [5, 13]), ([14, 8, 17, 0, 1, 2, 3, 4, 5, 6, 7, 8, 12, 13, 14, 15, 16, 17], [8, 14]), ([15, 11, 18, 0, 1, 2, 3, 4, 5, 6, 7, 8, 9, 10, 11, 12, 13, 14, 15, 16, 17, 18], [11, 15])]) := by kernel_rfl
theorem bitsadd_6 : waitsOk [([], []), ([], []), ([0, 1], [0, 1]), ([], []), ([], []), ([3, 4, 2], [3, 4]), ([], []), ([], []), ([6, 7, 5], [6, 7]), ([], []), ([], []), ([9, 10, 8], [9, 10]), ([], []), ([], []), ([], []), ([], []), ([12, 2, 11, 0, 1, 2, 12, 13, 14, 15], [2, 12]), ([13, 5, 16, 0, 1, 2, 3, 4, 5, 12, 13, 14, 15, 16], [5, 13]), ([14, 8, 17, 0, 1, 2, 3, 4, 5, 6, 7, 8, 12, 13, 14, 15, 16, 17], [8, 14]), ([15, 11, 18, 0, 1, 2, 3, 4, 5, 6, 7, 8, 9, 10, 11, 12, 13, 14, 15, 16, 17, 18], [11, 15])] [0, 0, 3, 0, 0, 31, 0, 0, 255, 0, 0, 2047, 0, 0, 0, 0, 65535, 131071, 262143, 524287] = true := by kernel_rfl
theorem tabadd_7 : rtab .any (opsOf Tryd.f18 7) = (true, [([], []), ([], []), ([0, 1], [0, 1]), ([], []), ([], []), ([3, 4, 2], [3, 4]), ([], []), ([], []), ([6, 7, 5], [6, 7]), ([], []), ([], []), ([9, 10, 8], [9, 10]), ([2, 5, 8, 11], [2, 5, 8, 11]), ([12, 11, 0, 1, 2, 3, 4, 5, 6, 7, 8, 9, 10, 11, 12], [12])]) := by kernel_rfl
theorem bitsadd_7 : waitsOk [([], []), ([], []), ([0, 1], [0, 1]), ([], []), ([], []), ([3, 4, 2], [3, 4]), ([], []), ([], []), ([6, 7, 5], [6, 7]), ([], []), ([], []), ([9, 10, 8], [9, 10]), ([2, 5, 8, 11], [2, 5, 8, 11]), ([12, 11, 0, 1, 2, 3, 4, 5, 6, 7, 8, 9, 10, 11, 12], [12])] [0, 0, 3, 0, 0, 31, 0, 0, 255, 0, 0, 2047, 4095, 8191] = true := by kernel_rfl
def aP (F H : Nat → Int) : Nat → Int := mulE (subE (co F 5) (co F 0)) (subE (co H 5) (co H 0))
def bP (F H : Nat → Int) : Nat → Int := mulE (addE (co F 5) (co F 0)) (addE (co H 5) (co H 0))
def cP (F H : Nat → Int) : Nat → Int := mulE (mulE (mulE (co F 15) (co H 15)) (carr (ofL dB))) (smL 2)
def eP (F H : Nat → Int) : Nat → Int := mulE (mulE (co F 10) (co H 10)) (smL 2)
def fP (F H : Nat → Int) : Nat → Int := subE (bP F H) (aP F H)
def gP (F H : Nat → Int) : Nat → Int := subE (eP F H) (cP F H)
def hP (F H : Nat → Int) : Nat → Int := addE (eP F H) (cP F H)
def iP (F H : Nat → Int) : Nat → Int := addE (bP F H) (aP F H)
def addP (F H : Nat → Int) : Nat → Int := pt4 (mulE (fP F H) (gP F H)) (mulE (hP F H) (iP F H)) (mulE (gP F H) (hP F H)) (mulE (fP F H) (iP F H))
theorem aP_Lm {F H : Nat → Int} (hF : PL F) (hH : PL H) : Lm (aP F H) := lmul (lsub hF.2.1 hF.1) (lsub hH.2.1 hH.1)
theorem bP_Lm {F H : Nat → Int} (hF : PL F) (hH : PL H) : Lm (bP F H) := lmul (ladd hF.2.1 hF.1) (ladd hH.2.1 hH.1)
theorem cP_Lm {F H : Nat → Int} (hF : PL F) (hH : PL H) : Lm (cP F H) := lmul (lmul (lmul hF.2.2.2 hH.2.2.2) (lof dB_By)) (smL_Lm 2 (by omega))
theorem eP_Lm {F H : Nat → Int} (hF : PL F) (hH : PL H) : Lm (eP F H) := lmul (lmul hF.2.2.1 hH.2.2.1) (smL_Lm 2 (by omega))
theorem fP_Lm {F H : Nat → Int} (hF : PL F) (hH : PL H) : Lm (fP F H) := lsub (bP_Lm hF hH) (aP_Lm hF hH)
theorem gP_Lm {F H : Nat → Int} (hF : PL F) (hH : PL H) : Lm (gP F H) := lsub (eP_Lm hF hH) (cP_Lm hF hH)
theorem hP_Lm {F H : Nat → Int} (hF : PL F) (hH : PL H) : Lm (hP F H) := ladd (eP_Lm hF hH) (cP_Lm hF hH)
theorem iP_Lm {F H : Nat → Int} (hF : PL F) (hH : PL H) : Lm (iP F H) := ladd (bP_Lm hF hH) (aP_Lm hF hH)
theorem addP_PL {F H : Nat → Int} (hF : PL F) (hH : PL H) : PL (addP F H) := pl_pt (lmul (fP_Lm hF hH) (gP_Lm hF hH)) (lmul (hP_Lm hF hH) (iP_Lm hF hH)) (lmul (gP_Lm hF hH) (hP_Lm hF hH)) (lmul (fP_Lm hF hH) (iP_Lm hF hH))
theorem add_pt (F H : Nat → Int) (w : World) (hT : TabD w) (hF : PL F) (hH : PL H) : Calls Tryd.prog 18 #[.agg (FR .u64 20 F), .agg (FR .u64 20 H)] w fun e w' => e = .returned (.agg (FR .u64 20 (addP F H))) ∧ Below w.heap.size w w' := by
  refine enter_ 79 Tryd.func18 rfl rfl (fun a0 hS => ?_)
  have HS0 : Sl a0 79 [(0, .agg (FR .u64 20 F)), (1, .agg (FR .u64 20 H))] := hS
  have HH0 : Held w w [] := Held.first w
  clear hS
  refine wp_seq ?_
  have hLo : LOk [(0, 2, .ptr 0 0), (1, 3, .ptr 1 0), (2, 4, .ptr 2 0)] := ⟨show ([0, 1, 2] : List Nat).Nodup by decide, show ([2, 3, 4] : List Nat).Nodup by decide⟩
  refine plain_ (wE := w) (sz := 79) (n := 3) [0, 1, 3] [(2, .ptr 0 0), (3, .ptr 1 0), (4, .ptr 2 0)] [(0, 2, .ptr 0 0), (1, 3, .ptr 1 0), (2, 4, .ptr 2 0)] [⟨0, some 0, none, .u64, 20, F, F, 28⟩, ⟨0, some 1, none, .u64, 20, H, H, 28⟩, ⟨0, some 2, none, .u64, 20, fun _ => 0, fun _ => 0, 28⟩] rfl (by rfl) HH0 rfl rfl hLo rfl HS0 (slL 0 (d := 0) rfl (slL 1 (d := 1) rfl (slL 2 (d := 2) rfl (trivial)))) ?_ ?_
  · show ∀ i ∈ [0, 1, 2], _
    refine steps_cons (st_alloc 0 0 .u64 20 28 none _ _ rfl rfl (fun _ _ _ _ => rfl) rfl hLo rfl rfl rfl rfl (by rfl) (fun b G w hb ho => exec_box rfl (ev_off rfl (HS0.get 0 rfl)) (by kernel_rfl))) ?_
    refine steps_cons (st_alloc 1 1 .u64 20 28 none _ _ rfl rfl (fun _ _ _ _ => rfl) rfl hLo rfl rfl rfl rfl (by rfl) (fun b G w hb ho => exec_box rfl (ev_off rfl (HS0.get 1 rfl)) (by kernel_rfl))) ?_
    refine steps_cons (st_alloc 2 2 .u64 20 28 none _ _ rfl rfl (fun _ _ _ _ => rfl) rfl hLo rfl rfl rfl rfl (by rfl) (fun b G w _ _ => by kernel_rfl)) ?_
    exact steps_nil
  clear hLo
  intro G a1 w1 hS hH
  have HS1 : Sl a1 79 [(2, .pointer (some ⟨(G 0), 0, none⟩)), (3, .pointer (some ⟨(G 1), 0, none⟩)), (4, .pointer (some ⟨(G 2), 0, none⟩))] := hS
  have HH1 : Held w w1 [⟨(G 0), .u64, 20, F, 28⟩, ⟨(G 1), .u64, 20, H, 28⟩, ⟨(G 2), .u64, 20, fun _ => 0, 28⟩] := hH
  clear hS hH HS0 HH0
  generalize G 0 = g1_0 at HS1 HH1
  generalize G 1 = g1_1 at HS1 HH1
  generalize G 2 = g1_2 at HS1 HH1
  refine then_ ?_
  refine wp_seq ?_
  have hLo : LOk [(0, 14, .val (.agg (FR .u64 5 (smL 2)))), (1, 5, .ptr 1 0)] := ⟨show ([0, 1] : List Nat).Nodup by decide, show ([14, 5] : List Nat).Nodup by decide⟩
  refine plain_ (wE := w) (sz := 79) (n := 3) [0, 1, 3] [(2, .val (.pointer (some ⟨g1_0, 0, none⟩))), (3, .val (.pointer (some ⟨g1_1, 0, none⟩))), (4, .val (.pointer (some ⟨g1_2, 0, none⟩))), (5, .ptr 1 0)] [(0, 14, .val (.agg (FR .u64 5 (smL 2)))), (1, 5, .ptr 1 0)] [⟨g1_0, none, none, .u64, 20, F, F, 28⟩, ⟨g1_1, none, none, .u64, 20, H, H, 28⟩, ⟨g1_2, none, none, .u64, 20, fun _ => 0, fun _ => 0, 28⟩, ⟨0, some 1, some 2, .u64, 5, fun _ => 0, smL 2, 26⟩] rfl (by rfl) HH1 rfl rfl hLo rfl HS1 (slS 0 rfl rfl (slS 1 rfl rfl (slS 2 rfl rfl (slL 1 (d := 1) rfl (trivial))))) ?_ ?_
  · show ∀ i ∈ [0, 1, 2], _
    refine steps_cons (st_call 0 _ #[.int .u32 2] rfl rfl rfl (fun _ _ _ _ => rfl) hLo rfl rfl Tryd.func27 rfl rfl (fun b G hb ho => args1 (rfl)) (fun w hw => Fd.small_elem_calls 2 w (by omega))) ?_
    refine steps_cons (st_alloc 1 3 .u64 5 26 (some 2) _ _ rfl rfl (fun _ _ _ _ => rfl) rfl hLo rfl rfl rfl rfl (by rfl) (fun b G w _ _ => by kernel_rfl)) ?_
    refine steps_cons (st_store 3 _ rfl rfl rfl rfl rfl (fun _ _ _ _ => rfl) rfl rfl rfl (by rfl) infoEl (fun b G hb ho => ev_on hLo 1 rfl HS1.1 rfl (hb 1 (by rfl))) (fun b G hb ho => ev_on hLo 0 rfl HS1.1 rfl (hb 0 (by rfl)))) ?_
    exact steps_nil
  clear hLo
  intro G a2 w2 hS hH
  have HS2 : Sl a2 79 [(2, .pointer (some ⟨g1_0, 0, none⟩)), (3, .pointer (some ⟨g1_1, 0, none⟩)), (4, .pointer (some ⟨g1_2, 0, none⟩)), (5, .pointer (some ⟨(G 1), 0, none⟩))] := hS
  have HH2 : Held w w2 [⟨g1_0, .u64, 20, F, 28⟩, ⟨g1_1, .u64, 20, H, 28⟩, ⟨g1_2, .u64, 20, fun _ => 0, 28⟩, ⟨(G 1), .u64, 5, smL 2, 26⟩] := hH
  clear hS hH HS1 HH1
  generalize G 1 = g2_1 at HS2 HH2
  refine then_ ?_
  refine wp_seq ?_
  have hLo : LOk [(0, 15, .val (.pointer (some ⟨g1_0, 5, none⟩))), (1, 16, .val (.agg (FR .u64 5 (co (F) 5)))), (2, 17, .val (.pointer (some ⟨g1_0, 0, none⟩))), (3, 18, .val (.agg (FR .u64 5 (co (F) 0)))), (4, 19, .val (.agg (FR .u64 5 (subE (co (F) 5) (co (F) 0))))), (5, 20, .val (.pointer (some ⟨g1_1, 5, none⟩))), (6, 21, .val (.agg (FR .u64 5 (co (H) 5)))), (7, 22, .val (.pointer (some ⟨g1_1, 0, none⟩))), (8, 23, .val (.agg (FR .u64 5 (co (H) 0)))), (9, 24, .val (.agg (FR .u64 5 (subE (co (H) 5) (co (H) 0))))), (10, 25, .val (.agg (FR .u64 5 (mulE (subE (co (F) 5) (co (F) 0)) (subE (co (H) 5) (co (H) 0)))))), (11, 6, .ptr 11 0)] := ⟨show ([0, 1, 2, 3, 4, 5, 6, 7, 8, 9, 10, 11] : List Nat).Nodup by decide, show ([15, 16, 17, 18, 19, 20, 21, 22, 23, 24, 25, 6] : List Nat).Nodup by decide⟩
  refine region_ (wE := w) (sz := 79) (n := 13) (B := [0, 1, 0, 4, 15, 0, 32, 0, 128, 511, 1023, 0, 4095]) [0, 1, 2, 3, 4, 5, 6, 7, 8, 9, 10, 11, 12] [(2, .val (.pointer (some ⟨g1_0, 0, none⟩))), (3, .val (.pointer (some ⟨g1_1, 0, none⟩))), (4, .val (.pointer (some ⟨g1_2, 0, none⟩))), (5, .val (.pointer (some ⟨g2_1, 0, none⟩))), (6, .ptr 11 0)] [(0, 15, .val (.pointer (some ⟨g1_0, 5, none⟩))), (1, 16, .val (.agg (FR .u64 5 (co (F) 5)))), (2, 17, .val (.pointer (some ⟨g1_0, 0, none⟩))), (3, 18, .val (.agg (FR .u64 5 (co (F) 0)))), (4, 19, .val (.agg (FR .u64 5 (subE (co (F) 5) (co (F) 0))))), (5, 20, .val (.pointer (some ⟨g1_1, 5, none⟩))), (6, 21, .val (.agg (FR .u64 5 (co (H) 5)))), (7, 22, .val (.pointer (some ⟨g1_1, 0, none⟩))), (8, 23, .val (.agg (FR .u64 5 (co (H) 0)))), (9, 24, .val (.agg (FR .u64 5 (subE (co (H) 5) (co (H) 0))))), (10, 25, .val (.agg (FR .u64 5 (mulE (subE (co (F) 5) (co (F) 0)) (subE (co (H) 5) (co (H) 0)))))), (11, 6, .ptr 11 0)] [⟨g1_0, none, none, .u64, 20, F, F, 28⟩, ⟨g1_1, none, none, .u64, 20, H, H, 28⟩, ⟨g1_2, none, none, .u64, 20, fun _ => 0, fun _ => 0, 28⟩, ⟨g2_1, none, none, .u64, 5, smL 2, smL 2, 26⟩, ⟨0, some 11, some 12, .u64, 5, fun _ => 0, mulE (subE (co (F) 5) (co (F) 0)) (subE (co (H) 5) (co (H) 0)), 26⟩] (by rfl) rfl tabadd_2 bitsadd_2 (by kernel_rfl) (by kernel_rfl) HH2 rfl rfl hLo rfl HS2 (slS 0 rfl rfl (slS 1 rfl rfl (slS 2 rfl rfl (slS 3 rfl rfl (slL 11 (d := 11) rfl (trivial)))))) ?_ ?_
  · show ∀ i ∈ [0, 1, 2, 3, 4, 5, 6, 7, 8, 9, 10, 11, 12], _
    refine steps_cons (st_run 0 _ rfl rfl hLo rfl rfl (fun _ _ _ _ => rfl) (fun b G w hb ho => exec_field rfl (ev_off rfl (HS2.get 0 rfl)) (by kernel_rfl))) ?_
    refine steps_cons (st_load0 1 0 _ 5 5 rfl rfl rfl rfl (fun _ _ _ _ => rfl) hLo rfl rfl rfl (by rfl) (Nat.le_of_ble_eq_true rfl) Tryd.underlying26 infoEl rfl (fun b G hb ho => ev_on hLo 0 rfl HS2.1 rfl (hb 0 (by rfl)))) ?_
    refine steps_cons (st_run 2 _ rfl rfl hLo rfl rfl (fun _ _ _ _ => rfl) (fun b G w hb ho => exec_field rfl (ev_off rfl (HS2.get 0 rfl)) (by kernel_rfl))) ?_
    refine steps_cons (st_load0 3 0 _ 0 5 rfl rfl rfl rfl (fun _ _ _ _ => rfl) hLo rfl rfl rfl (by rfl) (Nat.le_of_ble_eq_true rfl) Tryd.underlying26 infoEl rfl (fun b G hb ho => ev_on hLo 2 rfl HS2.1 rfl (hb 2 (by rfl)))) ?_
    refine steps_cons (st_call 4 _ #[.agg (FR .u64 5 (co (F) 5)), .agg (FR .u64 5 (co (F) 0))] rfl rfl rfl (fun _ _ _ _ => rfl) hLo rfl rfl Tryd.func33 rfl rfl (fun b G hb ho => args2 (ev_on hLo 1 rfl HS2.1 rfl (hb 1 (by rfl))) (ev_on hLo 3 rfl HS2.1 rfl (hb 3 (by rfl)))) (fun w hw => subE_c _ _ w (hF).2.1 (hF).1)) ?_
    refine steps_cons (st_run 5 _ rfl rfl hLo rfl rfl (fun _ _ _ _ => rfl) (fun b G w hb ho => exec_field rfl (ev_off rfl (HS2.get 1 rfl)) (by kernel_rfl))) ?_
    refine steps_cons (st_load0 6 1 _ 5 5 rfl rfl rfl rfl (fun _ _ _ _ => rfl) hLo rfl rfl rfl (by rfl) (Nat.le_of_ble_eq_true rfl) Tryd.underlying26 infoEl rfl (fun b G hb ho => ev_on hLo 5 rfl HS2.1 rfl (hb 5 (by rfl)))) ?_
    refine steps_cons (st_run 7 _ rfl rfl hLo rfl rfl (fun _ _ _ _ => rfl) (fun b G w hb ho => exec_field rfl (ev_off rfl (HS2.get 1 rfl)) (by kernel_rfl))) ?_
    refine steps_cons (st_load0 8 1 _ 0 5 rfl rfl rfl rfl (fun _ _ _ _ => rfl) hLo rfl rfl rfl (by rfl) (Nat.le_of_ble_eq_true rfl) Tryd.underlying26 infoEl rfl (fun b G hb ho => ev_on hLo 7 rfl HS2.1 rfl (hb 7 (by rfl)))) ?_
    refine steps_cons (st_call 9 _ #[.agg (FR .u64 5 (co (H) 5)), .agg (FR .u64 5 (co (H) 0))] rfl rfl rfl (fun _ _ _ _ => rfl) hLo rfl rfl Tryd.func33 rfl rfl (fun b G hb ho => args2 (ev_on hLo 6 rfl HS2.1 rfl (hb 6 (by rfl))) (ev_on hLo 8 rfl HS2.1 rfl (hb 8 (by rfl)))) (fun w hw => subE_c _ _ w (hH).2.1 (hH).1)) ?_
    refine steps_cons (st_call 10 _ #[.agg (FR .u64 5 (subE (co (F) 5) (co (F) 0))), .agg (FR .u64 5 (subE (co (H) 5) (co (H) 0)))] rfl rfl rfl (fun _ _ _ _ => rfl) hLo rfl rfl Tryd.func29 rfl rfl (fun b G hb ho => args2 (ev_on hLo 4 rfl HS2.1 rfl (hb 4 (by rfl))) (ev_on hLo 9 rfl HS2.1 rfl (hb 9 (by rfl)))) (fun w hw => elem_mul_calls _ _ w (lsub (hF).2.1 (hF).1) (lsub (hH).2.1 (hH).1))) ?_
    refine steps_cons (st_alloc 11 4 .u64 5 26 (some 12) _ _ rfl rfl (fun _ _ _ _ => rfl) rfl hLo rfl rfl rfl rfl (by rfl) (fun b G w _ _ => by kernel_rfl)) ?_
    refine steps_cons (st_store 4 _ rfl rfl rfl rfl rfl (fun _ _ _ _ => rfl) rfl rfl rfl (by rfl) infoEl (fun b G hb ho => ev_on hLo 11 rfl HS2.1 rfl (hb 11 (by rfl))) (fun b G hb ho => ev_on hLo 10 rfl HS2.1 rfl (hb 10 (by rfl)))) ?_
    exact steps_nil
  clear hLo
  intro G a3 w3 hS hH
  have HS3 : Sl a3 79 [(2, .pointer (some ⟨g1_0, 0, none⟩)), (3, .pointer (some ⟨g1_1, 0, none⟩)), (4, .pointer (some ⟨g1_2, 0, none⟩)), (5, .pointer (some ⟨g2_1, 0, none⟩)), (6, .pointer (some ⟨(G 11), 0, none⟩))] := hS
  have HH3 : Held w w3 [⟨g1_0, .u64, 20, F, 28⟩, ⟨g1_1, .u64, 20, H, 28⟩, ⟨g1_2, .u64, 20, fun _ => 0, 28⟩, ⟨g2_1, .u64, 5, smL 2, 26⟩, ⟨(G 11), .u64, 5, aP F H, 26⟩] := hH
  clear hS hH HS2 HH2
  generalize G 11 = g3_11 at HS3 HH3
  refine then_ ?_
  refine wp_seq ?_
  have hLo : LOk [(0, 26, .val (.pointer (some ⟨g1_0, 5, none⟩))), (1, 27, .val (.agg (FR .u64 5 (co (F) 5)))), (2, 28, .val (.pointer (some ⟨g1_0, 0, none⟩))), (3, 29, .val (.agg (FR .u64 5 (co (F) 0)))), (4, 30, .val (.agg (FR .u64 5 (addE (co (F) 5) (co (F) 0))))), (5, 31, .val (.pointer (some ⟨g1_1, 5, none⟩))), (6, 32, .val (.agg (FR .u64 5 (co (H) 5)))), (7, 33, .val (.pointer (some ⟨g1_1, 0, none⟩))), (8, 34, .val (.agg (FR .u64 5 (co (H) 0)))), (9, 35, .val (.agg (FR .u64 5 (addE (co (H) 5) (co (H) 0))))), (10, 36, .val (.agg (FR .u64 5 (mulE (addE (co (F) 5) (co (F) 0)) (addE (co (H) 5) (co (H) 0)))))), (11, 7, .ptr 11 0)] := ⟨show ([0, 1, 2, 3, 4, 5, 6, 7, 8, 9, 10, 11] : List Nat).Nodup by decide, show ([26, 27, 28, 29, 30, 31, 32, 33, 34, 35, 36, 7] : List Nat).Nodup by decide⟩
  refine region_ (wE := w) (sz := 79) (n := 13) (B := [0, 1, 0, 4, 15, 0, 32, 0, 128, 511, 1023, 0, 4095]) [0, 1, 2, 3, 4, 5, 6, 7, 8, 9, 10, 11, 12] [(2, .val (.pointer (some ⟨g1_0, 0, none⟩))), (3, .val (.pointer (some ⟨g1_1, 0, none⟩))), (4, .val (.pointer (some ⟨g1_2, 0, none⟩))), (5, .val (.pointer (some ⟨g2_1, 0, none⟩))), (6, .val (.pointer (some ⟨g3_11, 0, none⟩))), (7, .ptr 11 0)] [(0, 26, .val (.pointer (some ⟨g1_0, 5, none⟩))), (1, 27, .val (.agg (FR .u64 5 (co (F) 5)))), (2, 28, .val (.pointer (some ⟨g1_0, 0, none⟩))), (3, 29, .val (.agg (FR .u64 5 (co (F) 0)))), (4, 30, .val (.agg (FR .u64 5 (addE (co (F) 5) (co (F) 0))))), (5, 31, .val (.pointer (some ⟨g1_1, 5, none⟩))), (6, 32, .val (.agg (FR .u64 5 (co (H) 5)))), (7, 33, .val (.pointer (some ⟨g1_1, 0, none⟩))), (8, 34, .val (.agg (FR .u64 5 (co (H) 0)))), (9, 35, .val (.agg (FR .u64 5 (addE (co (H) 5) (co (H) 0))))), (10, 36, .val (.agg (FR .u64 5 (mulE (addE (co (F) 5) (co (F) 0)) (addE (co (H) 5) (co (H) 0)))))), (11, 7, .ptr 11 0)] [⟨g1_0, none, none, .u64, 20, F, F, 28⟩, ⟨g1_1, none, none, .u64, 20, H, H, 28⟩, ⟨g1_2, none, none, .u64, 20, fun _ => 0, fun _ => 0, 28⟩, ⟨g2_1, none, none, .u64, 5, smL 2, smL 2, 26⟩, ⟨g3_11, none, none, .u64, 5, aP F H, aP F H, 26⟩, ⟨0, some 11, some 12, .u64, 5, fun _ => 0, mulE (addE (co (F) 5) (co (F) 0)) (addE (co (H) 5) (co (H) 0)), 26⟩] (by rfl) rfl tabadd_3 bitsadd_3 (by kernel_rfl) (by kernel_rfl) HH3 rfl rfl hLo rfl HS3 (slS 0 rfl rfl (slS 1 rfl rfl (slS 2 rfl rfl (slS 3 rfl rfl (slS 4 rfl rfl (slL 11 (d := 11) rfl (trivial))))))) ?_ ?_
  · show ∀ i ∈ [0, 1, 2, 3, 4, 5, 6, 7, 8, 9, 10, 11, 12], _
    refine steps_cons (st_run 0 _ rfl rfl hLo rfl rfl (fun _ _ _ _ => rfl) (fun b G w hb ho => exec_field rfl (ev_off rfl (HS3.get 0 rfl)) (by kernel_rfl))) ?_
    refine steps_cons (st_load0 1 0 _ 5 5 rfl rfl rfl rfl (fun _ _ _ _ => rfl) hLo rfl rfl rfl (by rfl) (Nat.le_of_ble_eq_true rfl) Tryd.underlying26 infoEl rfl (fun b G hb ho => ev_on hLo 0 rfl HS3.1 rfl (hb 0 (by rfl)))) ?_
    refine steps_cons (st_run 2 _ rfl rfl hLo rfl rfl (fun _ _ _ _ => rfl) (fun b G w hb ho => exec_field rfl (ev_off rfl (HS3.get 0 rfl)) (by kernel_rfl))) ?_
    refine steps_cons (st_load0 3 0 _ 0 5 rfl rfl rfl rfl (fun _ _ _ _ => rfl) hLo rfl rfl rfl (by rfl) (Nat.le_of_ble_eq_true rfl) Tryd.underlying26 infoEl rfl (fun b G hb ho => ev_on hLo 2 rfl HS3.1 rfl (hb 2 (by rfl)))) ?_
    refine steps_cons (st_call 4 _ #[.agg (FR .u64 5 (co (F) 5)), .agg (FR .u64 5 (co (F) 0))] rfl rfl rfl (fun _ _ _ _ => rfl) hLo rfl rfl Tryd.func34 rfl rfl (fun b G hb ho => args2 (ev_on hLo 1 rfl HS3.1 rfl (hb 1 (by rfl))) (ev_on hLo 3 rfl HS3.1 rfl (hb 3 (by rfl)))) (fun w hw => addE_c _ _ w (hF).2.1 (hF).1)) ?_
    refine steps_cons (st_run 5 _ rfl rfl hLo rfl rfl (fun _ _ _ _ => rfl) (fun b G w hb ho => exec_field rfl (ev_off rfl (HS3.get 1 rfl)) (by kernel_rfl))) ?_
    refine steps_cons (st_load0 6 1 _ 5 5 rfl rfl rfl rfl (fun _ _ _ _ => rfl) hLo rfl rfl rfl (by rfl) (Nat.le_of_ble_eq_true rfl) Tryd.underlying26 infoEl rfl (fun b G hb ho => ev_on hLo 5 rfl HS3.1 rfl (hb 5 (by rfl)))) ?_
    refine steps_cons (st_run 7 _ rfl rfl hLo rfl rfl (fun _ _ _ _ => rfl) (fun b G w hb ho => exec_field rfl (ev_off rfl (HS3.get 1 rfl)) (by kernel_rfl))) ?_
    refine steps_cons (st_load0 8 1 _ 0 5 rfl rfl rfl rfl (fun _ _ _ _ => rfl) hLo rfl rfl rfl (by rfl) (Nat.le_of_ble_eq_true rfl) Tryd.underlying26 infoEl rfl (fun b G hb ho => ev_on hLo 7 rfl HS3.1 rfl (hb 7 (by rfl)))) ?_
    refine steps_cons (st_call 9 _ #[.agg (FR .u64 5 (co (H) 5)), .agg (FR .u64 5 (co (H) 0))] rfl rfl rfl (fun _ _ _ _ => rfl) hLo rfl rfl Tryd.func34 rfl rfl (fun b G hb ho => args2 (ev_on hLo 6 rfl HS3.1 rfl (hb 6 (by rfl))) (ev_on hLo 8 rfl HS3.1 rfl (hb 8 (by rfl)))) (fun w hw => addE_c _ _ w (hH).2.1 (hH).1)) ?_
    refine steps_cons (st_call 10 _ #[.agg (FR .u64 5 (addE (co (F) 5) (co (F) 0))), .agg (FR .u64 5 (addE (co (H) 5) (co (H) 0)))] rfl rfl rfl (fun _ _ _ _ => rfl) hLo rfl rfl Tryd.func29 rfl rfl (fun b G hb ho => args2 (ev_on hLo 4 rfl HS3.1 rfl (hb 4 (by rfl))) (ev_on hLo 9 rfl HS3.1 rfl (hb 9 (by rfl)))) (fun w hw => elem_mul_calls _ _ w (ladd (hF).2.1 (hF).1) (ladd (hH).2.1 (hH).1))) ?_
    refine steps_cons (st_alloc 11 5 .u64 5 26 (some 12) _ _ rfl rfl (fun _ _ _ _ => rfl) rfl hLo rfl rfl rfl rfl (by rfl) (fun b G w _ _ => by kernel_rfl)) ?_
    refine steps_cons (st_store 5 _ rfl rfl rfl rfl rfl (fun _ _ _ _ => rfl) rfl rfl rfl (by rfl) infoEl (fun b G hb ho => ev_on hLo 11 rfl HS3.1 rfl (hb 11 (by rfl))) (fun b G hb ho => ev_on hLo 10 rfl HS3.1 rfl (hb 10 (by rfl)))) ?_
    exact steps_nil
  clear hLo
  intro G a4 w4 hS hH
  have HS4 : Sl a4 79 [(2, .pointer (some ⟨g1_0, 0, none⟩)), (3, .pointer (some ⟨g1_1, 0, none⟩)), (4, .pointer (some ⟨g1_2, 0, none⟩)), (5, .pointer (some ⟨g2_1, 0, none⟩)), (6, .pointer (some ⟨g3_11, 0, none⟩)), (7, .pointer (some ⟨(G 11), 0, none⟩))] := hS
  have HH4 : Held w w4 [⟨g1_0, .u64, 20, F, 28⟩, ⟨g1_1, .u64, 20, H, 28⟩, ⟨g1_2, .u64, 20, fun _ => 0, 28⟩, ⟨g2_1, .u64, 5, smL 2, 26⟩, ⟨g3_11, .u64, 5, aP F H, 26⟩, ⟨(G 11), .u64, 5, bP F H, 26⟩] := hH
  clear hS hH HS3 HH3
  generalize G 11 = g4_11 at HS4 HH4
  refine then_ ?_
  refine wp_seq ?_
  have hLo : LOk [(0, 37, .val (.pointer (some ⟨g1_0, 15, none⟩))), (1, 38, .val (.agg (FR .u64 5 (co (F) 15)))), (2, 39, .val (.pointer (some ⟨g1_1, 15, none⟩))), (3, 40, .val (.agg (FR .u64 5 (co (H) 15)))), (4, 41, .val (.agg (FR .u64 5 (mulE (co (F) 15) (co (H) 15))))), (5, 42, .val (.agg (FR .u8 32 (dB)))), (6, 43, .val (.agg (FR .u64 5 (carr (ofL (dB)))))), (7, 44, .val (.agg (FR .u64 5 (mulE (mulE (co (F) 15) (co (H) 15)) (carr (ofL (dB))))))), (8, 45, .val (.agg (FR .u64 5 (smL 2)))), (9, 46, .val (.agg (FR .u64 5 (mulE (mulE (mulE (co (F) 15) (co (H) 15)) (carr (ofL (dB)))) (smL 2))))), (10, 8, .ptr 10 0)] := ⟨show ([0, 1, 2, 3, 4, 5, 6, 7, 8, 9, 10] : List Nat).Nodup by decide, show ([37, 38, 39, 40, 41, 42, 43, 44, 45, 46, 8] : List Nat).Nodup by decide⟩
  refine region_ (wE := w) (sz := 79) (n := 12) (B := [0, 1, 0, 4, 15, 0, 63, 127, 0, 511, 0, 2047]) [0, 1, 2, 3, 4, 5, 6, 7, 8, 9, 10, 11] [(2, .val (.pointer (some ⟨g1_0, 0, none⟩))), (3, .val (.pointer (some ⟨g1_1, 0, none⟩))), (4, .val (.pointer (some ⟨g1_2, 0, none⟩))), (5, .val (.pointer (some ⟨g2_1, 0, none⟩))), (6, .val (.pointer (some ⟨g3_11, 0, none⟩))), (7, .val (.pointer (some ⟨g4_11, 0, none⟩))), (8, .ptr 10 0)] [(0, 37, .val (.pointer (some ⟨g1_0, 15, none⟩))), (1, 38, .val (.agg (FR .u64 5 (co (F) 15)))), (2, 39, .val (.pointer (some ⟨g1_1, 15, none⟩))), (3, 40, .val (.agg (FR .u64 5 (co (H) 15)))), (4, 41, .val (.agg (FR .u64 5 (mulE (co (F) 15) (co (H) 15))))), (5, 42, .val (.agg (FR .u8 32 (dB)))), (6, 43, .val (.agg (FR .u64 5 (carr (ofL (dB)))))), (7, 44, .val (.agg (FR .u64 5 (mulE (mulE (co (F) 15) (co (H) 15)) (carr (ofL (dB))))))), (8, 45, .val (.agg (FR .u64 5 (smL 2)))), (9, 46, .val (.agg (FR .u64 5 (mulE (mulE (mulE (co (F) 15) (co (H) 15)) (carr (ofL (dB)))) (smL 2))))), (10, 8, .ptr 10 0)] [⟨g1_0, none, none, .u64, 20, F, F, 28⟩, ⟨g1_1, none, none, .u64, 20, H, H, 28⟩, ⟨g1_2, none, none, .u64, 20, fun _ => 0, fun _ => 0, 28⟩, ⟨g2_1, none, none, .u64, 5, smL 2, smL 2, 26⟩, ⟨g3_11, none, none, .u64, 5, aP F H, aP F H, 26⟩, ⟨g4_11, none, none, .u64, 5, bP F H, bP F H, 26⟩, ⟨0, some 10, some 11, .u64, 5, fun _ => 0, mulE (mulE (mulE (co (F) 15) (co (H) 15)) (carr (ofL (dB)))) (smL 2), 26⟩] (by rfl) rfl tabadd_4 bitsadd_4 (by kernel_rfl) (by kernel_rfl) HH4 rfl rfl hLo rfl HS4 (slS 0 rfl rfl (slS 1 rfl rfl (slS 2 rfl rfl (slS 3 rfl rfl (slS 4 rfl rfl (slS 5 rfl rfl (slL 10 (d := 10) rfl (trivial)))))))) ?_ ?_
  · show ∀ i ∈ [0, 1, 2, 3, 4, 5, 6, 7, 8, 9, 10, 11], _
    refine steps_cons (st_run 0 _ rfl rfl hLo rfl rfl (fun _ _ _ _ => rfl) (fun b G w hb ho => exec_field rfl (ev_off rfl (HS4.get 0 rfl)) (by kernel_rfl))) ?_
    refine steps_cons (st_load0 1 0 _ 15 5 rfl rfl rfl rfl (fun _ _ _ _ => rfl) hLo rfl rfl rfl (by rfl) (Nat.le_of_ble_eq_true rfl) Tryd.underlying26 infoEl rfl (fun b G hb ho => ev_on hLo 0 rfl HS4.1 rfl (hb 0 (by rfl)))) ?_
    refine steps_cons (st_run 2 _ rfl rfl hLo rfl rfl (fun _ _ _ _ => rfl) (fun b G w hb ho => exec_field rfl (ev_off rfl (HS4.get 1 rfl)) (by kernel_rfl))) ?_
    refine steps_cons (st_load0 3 1 _ 15 5 rfl rfl rfl rfl (fun _ _ _ _ => rfl) hLo rfl rfl rfl (by rfl) (Nat.le_of_ble_eq_true rfl) Tryd.underlying26 infoEl rfl (fun b G hb ho => ev_on hLo 2 rfl HS4.1 rfl (hb 2 (by rfl)))) ?_
    refine steps_cons (st_call 4 _ #[.agg (FR .u64 5 (co (F) 15)), .agg (FR .u64 5 (co (H) 15))] rfl rfl rfl (fun _ _ _ _ => rfl) hLo rfl rfl Tryd.func29 rfl rfl (fun b G hb ho => args2 (ev_on hLo 1 rfl HS4.1 rfl (hb 1 (by rfl))) (ev_on hLo 3 rfl HS4.1 rfl (hb 3 (by rfl)))) (fun w hw => elem_mul_calls _ _ w (hF).2.2.2 (hH).2.2.2)) ?_
    refine steps_cons (st_table 5 rfl rfl rfl (fun _ _ _ _ => rfl) hLo rfl rfl Tryd.underlying22 infoB3 rfl (fun w' hb => hT.at w' hb) rfl) ?_
    refine steps_cons (st_call 6 _ #[.agg (FR .u8 32 (dB))] rfl rfl rfl (fun _ _ _ _ => rfl) hLo rfl rfl Tryd.func32 rfl rfl (fun b G hb ho => args1 (ev_on hLo 5 rfl HS4.1 rfl (hb 5 (by rfl)))) (fun w hw => Of_elem_calls _ w dB_By)) ?_
    refine steps_cons (st_call 7 _ #[.agg (FR .u64 5 (mulE (co (F) 15) (co (H) 15))), .agg (FR .u64 5 (carr (ofL (dB))))] rfl rfl rfl (fun _ _ _ _ => rfl) hLo rfl rfl Tryd.func29 rfl rfl (fun b G hb ho => args2 (ev_on hLo 4 rfl HS4.1 rfl (hb 4 (by rfl))) (ev_on hLo 6 rfl HS4.1 rfl (hb 6 (by rfl)))) (fun w hw => elem_mul_calls _ _ w (lmul (hF).2.2.2 (hH).2.2.2) (lof dB_By))) ?_
    refine steps_cons (st_row0 8 3 _ rfl rfl rfl rfl (fun _ _ _ _ => rfl) hLo rfl rfl rfl (by rfl) Tryd.underlying26 infoEl rfl (fun b G hb ho => ev_off rfl (HS4.get 3 rfl))) ?_
    refine steps_cons (st_call 9 _ #[.agg (FR .u64 5 (mulE (mulE (co (F) 15) (co (H) 15)) (carr (ofL (dB))))), .agg (FR .u64 5 (smL 2))] rfl rfl rfl (fun _ _ _ _ => rfl) hLo rfl rfl Tryd.func29 rfl rfl (fun b G hb ho => args2 (ev_on hLo 7 rfl HS4.1 rfl (hb 7 (by rfl))) (ev_on hLo 8 rfl HS4.1 rfl (hb 8 (by rfl)))) (fun w hw => elem_mul_calls _ _ w (lmul (lmul (hF).2.2.2 (hH).2.2.2) (lof dB_By)) (smL_Lm 2 (by omega)))) ?_
    refine steps_cons (st_alloc 10 6 .u64 5 26 (some 11) _ _ rfl rfl (fun _ _ _ _ => rfl) rfl hLo rfl rfl rfl rfl (by rfl) (fun b G w _ _ => by kernel_rfl)) ?_
    refine steps_cons (st_store 6 _ rfl rfl rfl rfl rfl (fun _ _ _ _ => rfl) rfl rfl rfl (by rfl) infoEl (fun b G hb ho => ev_on hLo 10 rfl HS4.1 rfl (hb 10 (by rfl))) (fun b G hb ho => ev_on hLo 9 rfl HS4.1 rfl (hb 9 (by rfl)))) ?_
    exact steps_nil
  clear hLo
  intro G a5 w5 hS hH
  have HS5 : Sl a5 79 [(2, .pointer (some ⟨g1_0, 0, none⟩)), (3, .pointer (some ⟨g1_1, 0, none⟩)), (4, .pointer (some ⟨g1_2, 0, none⟩)), (5, .pointer (some ⟨g2_1, 0, none⟩)), (6, .pointer (some ⟨g3_11, 0, none⟩)), (7, .pointer (some ⟨g4_11, 0, none⟩)), (8, .pointer (some ⟨(G 10), 0, none⟩))] := hS
  have HH5 : Held w w5 [⟨g1_0, .u64, 20, F, 28⟩, ⟨g1_1, .u64, 20, H, 28⟩, ⟨g1_2, .u64, 20, fun _ => 0, 28⟩, ⟨g2_1, .u64, 5, smL 2, 26⟩, ⟨g3_11, .u64, 5, aP F H, 26⟩, ⟨g4_11, .u64, 5, bP F H, 26⟩, ⟨(G 10), .u64, 5, cP F H, 26⟩] := hH
  clear hS hH HS4 HH4
  generalize G 10 = g5_10 at HS5 HH5
  refine then_ ?_
  refine wp_seq ?_
  have hLo : LOk [(0, 47, .val (.pointer (some ⟨g1_0, 10, none⟩))), (1, 48, .val (.agg (FR .u64 5 (co (F) 10)))), (2, 49, .val (.pointer (some ⟨g1_1, 10, none⟩))), (3, 50, .val (.agg (FR .u64 5 (co (H) 10)))), (4, 51, .val (.agg (FR .u64 5 (mulE (co (F) 10) (co (H) 10))))), (5, 52, .val (.agg (FR .u64 5 (smL 2)))), (6, 53, .val (.agg (FR .u64 5 (mulE (mulE (co (F) 10) (co (H) 10)) (smL 2))))), (7, 9, .ptr 7 0)] := ⟨show ([0, 1, 2, 3, 4, 5, 6, 7] : List Nat).Nodup by decide, show ([47, 48, 49, 50, 51, 52, 53, 9] : List Nat).Nodup by decide⟩
  refine region_ (wE := w) (sz := 79) (n := 9) (B := [0, 1, 0, 4, 15, 0, 63, 0, 255]) [0, 1, 2, 3, 4, 5, 6, 7, 8] [(2, .val (.pointer (some ⟨g1_0, 0, none⟩))), (3, .val (.pointer (some ⟨g1_1, 0, none⟩))), (4, .val (.pointer (some ⟨g1_2, 0, none⟩))), (5, .val (.pointer (some ⟨g2_1, 0, none⟩))), (6, .val (.pointer (some ⟨g3_11, 0, none⟩))), (7, .val (.pointer (some ⟨g4_11, 0, none⟩))), (8, .val (.pointer (some ⟨g5_10, 0, none⟩))), (9, .ptr 7 0)] [(0, 47, .val (.pointer (some ⟨g1_0, 10, none⟩))), (1, 48, .val (.agg (FR .u64 5 (co (F) 10)))), (2, 49, .val (.pointer (some ⟨g1_1, 10, none⟩))), (3, 50, .val (.agg (FR .u64 5 (co (H) 10)))), (4, 51, .val (.agg (FR .u64 5 (mulE (co (F) 10) (co (H) 10))))), (5, 52, .val (.agg (FR .u64 5 (smL 2)))), (6, 53, .val (.agg (FR .u64 5 (mulE (mulE (co (F) 10) (co (H) 10)) (smL 2))))), (7, 9, .ptr 7 0)] [⟨g1_0, none, none, .u64, 20, F, F, 28⟩, ⟨g1_1, none, none, .u64, 20, H, H, 28⟩, ⟨g1_2, none, none, .u64, 20, fun _ => 0, fun _ => 0, 28⟩, ⟨g2_1, none, none, .u64, 5, smL 2, smL 2, 26⟩, ⟨g3_11, none, none, .u64, 5, aP F H, aP F H, 26⟩, ⟨g4_11, none, none, .u64, 5, bP F H, bP F H, 26⟩, ⟨g5_10, none, none, .u64, 5, cP F H, cP F H, 26⟩, ⟨0, some 7, some 8, .u64, 5, fun _ => 0, mulE (mulE (co (F) 10) (co (H) 10)) (smL 2), 26⟩] (by rfl) rfl tabadd_5 bitsadd_5 (by kernel_rfl) (by kernel_rfl) HH5 rfl rfl hLo rfl HS5 (slS 0 rfl rfl (slS 1 rfl rfl (slS 2 rfl rfl (slS 3 rfl rfl (slS 4 rfl rfl (slS 5 rfl rfl (slS 6 rfl rfl (slL 7 (d := 7) rfl (trivial))))))))) ?_ ?_
  · show ∀ i ∈ [0, 1, 2, 3, 4, 5, 6, 7, 8], _
    refine steps_cons (st_run 0 _ rfl rfl hLo rfl rfl (fun _ _ _ _ => rfl) (fun b G w hb ho => exec_field rfl (ev_off rfl (HS5.get 0 rfl)) (by kernel_rfl))) ?_
    refine steps_cons (st_load0 1 0 _ 10 5 rfl rfl rfl rfl (fun _ _ _ _ => rfl) hLo rfl rfl rfl (by rfl) (Nat.le_of_ble_eq_true rfl) Tryd.underlying26 infoEl rfl (fun b G hb ho => ev_on hLo 0 rfl HS5.1 rfl (hb 0 (by rfl)))) ?_
    refine steps_cons (st_run 2 _ rfl rfl hLo rfl rfl (fun _ _ _ _ => rfl) (fun b G w hb ho => exec_field rfl (ev_off rfl (HS5.get 1 rfl)) (by kernel_rfl))) ?_
    refine steps_cons (st_load0 3 1 _ 10 5 rfl rfl rfl rfl (fun _ _ _ _ => rfl) hLo rfl rfl rfl (by rfl) (Nat.le_of_ble_eq_true rfl) Tryd.underlying26 infoEl rfl (fun b G hb ho => ev_on hLo 2 rfl HS5.1 rfl (hb 2 (by rfl)))) ?_
    refine steps_cons (st_call 4 _ #[.agg (FR .u64 5 (co (F) 10)), .agg (FR .u64 5 (co (H) 10))] rfl rfl rfl (fun _ _ _ _ => rfl) hLo rfl rfl Tryd.func29 rfl rfl (fun b G hb ho => args2 (ev_on hLo 1 rfl HS5.1 rfl (hb 1 (by rfl))) (ev_on hLo 3 rfl HS5.1 rfl (hb 3 (by rfl)))) (fun w hw => elem_mul_calls _ _ w (hF).2.2.1 (hH).2.2.1)) ?_
    refine steps_cons (st_row0 5 3 _ rfl rfl rfl rfl (fun _ _ _ _ => rfl) hLo rfl rfl rfl (by rfl) Tryd.underlying26 infoEl rfl (fun b G hb ho => ev_off rfl (HS5.get 3 rfl))) ?_
    refine steps_cons (st_call 6 _ #[.agg (FR .u64 5 (mulE (co (F) 10) (co (H) 10))), .agg (FR .u64 5 (smL 2))] rfl rfl rfl (fun _ _ _ _ => rfl) hLo rfl rfl Tryd.func29 rfl rfl (fun b G hb ho => args2 (ev_on hLo 4 rfl HS5.1 rfl (hb 4 (by rfl))) (ev_on hLo 5 rfl HS5.1 rfl (hb 5 (by rfl)))) (fun w hw => elem_mul_calls _ _ w (lmul (hF).2.2.1 (hH).2.2.1) (smL_Lm 2 (by omega)))) ?_
    refine steps_cons (st_alloc 7 7 .u64 5 26 (some 8) _ _ rfl rfl (fun _ _ _ _ => rfl) rfl hLo rfl rfl rfl rfl (by rfl) (fun b G w _ _ => by kernel_rfl)) ?_
    refine steps_cons (st_store 7 _ rfl rfl rfl rfl rfl (fun _ _ _ _ => rfl) rfl rfl rfl (by rfl) infoEl (fun b G hb ho => ev_on hLo 7 rfl HS5.1 rfl (hb 7 (by rfl))) (fun b G hb ho => ev_on hLo 6 rfl HS5.1 rfl (hb 6 (by rfl)))) ?_
    exact steps_nil
  clear hLo
  intro G a6 w6 hS hH
  have HS6 : Sl a6 79 [(2, .pointer (some ⟨g1_0, 0, none⟩)), (3, .pointer (some ⟨g1_1, 0, none⟩)), (4, .pointer (some ⟨g1_2, 0, none⟩)), (5, .pointer (some ⟨g2_1, 0, none⟩)), (6, .pointer (some ⟨g3_11, 0, none⟩)), (7, .pointer (some ⟨g4_11, 0, none⟩)), (8, .pointer (some ⟨g5_10, 0, none⟩)), (9, .pointer (some ⟨(G 7), 0, none⟩))] := hS
  have HH6 : Held w w6 [⟨g1_0, .u64, 20, F, 28⟩, ⟨g1_1, .u64, 20, H, 28⟩, ⟨g1_2, .u64, 20, fun _ => 0, 28⟩, ⟨g2_1, .u64, 5, smL 2, 26⟩, ⟨g3_11, .u64, 5, aP F H, 26⟩, ⟨g4_11, .u64, 5, bP F H, 26⟩, ⟨g5_10, .u64, 5, cP F H, 26⟩, ⟨(G 7), .u64, 5, eP F H, 26⟩] := hH
  clear hS hH HS5 HH5
  generalize G 7 = g6_7 at HS6 HH6
  refine then_ ?_
  refine wp_seq ?_
  have hLo : LOk [(0, 54, .val (.agg (FR .u64 5 (bP F H)))), (1, 55, .val (.agg (FR .u64 5 (aP F H)))), (2, 56, .val (.agg (FR .u64 5 (subE (bP F H) (aP F H))))), (3, 57, .val (.agg (FR .u64 5 (eP F H)))), (4, 58, .val (.agg (FR .u64 5 (cP F H)))), (5, 59, .val (.agg (FR .u64 5 (subE (eP F H) (cP F H))))), (6, 60, .val (.agg (FR .u64 5 (eP F H)))), (7, 61, .val (.agg (FR .u64 5 (cP F H)))), (8, 62, .val (.agg (FR .u64 5 (addE (eP F H) (cP F H))))), (9, 63, .val (.agg (FR .u64 5 (bP F H)))), (10, 64, .val (.agg (FR .u64 5 (aP F H)))), (11, 65, .val (.agg (FR .u64 5 (addE (bP F H) (aP F H))))), (12, 10, .ptr 12 0), (13, 11, .ptr 13 0), (14, 12, .ptr 14 0), (15, 13, .ptr 15 0)] := ⟨show ([0, 1, 2, 3, 4, 5, 6, 7, 8, 9, 10, 11, 12, 13, 14, 15] : List Nat).Nodup by decide, show ([54, 55, 56, 57, 58, 59, 60, 61, 62, 63, 64, 65, 10, 11, 12, 13] : List Nat).Nodup by decide⟩
  refine region_ (wE := w) (sz := 79) (n := 20) (B := [0, 0, 3, 0, 0, 31, 0, 0, 255, 0, 0, 2047, 0, 0, 0, 0, 65535, 131071, 262143, 524287]) [0, 1, 2, 3, 4, 5, 6, 7, 8, 9, 10, 11, 12, 13, 14, 15, 16, 17, 18, 19] [(4, .val (.pointer (some ⟨g1_2, 0, none⟩))), (10, .ptr 12 0), (11, .ptr 13 0), (12, .ptr 14 0), (13, .ptr 15 0)] [(0, 54, .val (.agg (FR .u64 5 (bP F H)))), (1, 55, .val (.agg (FR .u64 5 (aP F H)))), (2, 56, .val (.agg (FR .u64 5 (subE (bP F H) (aP F H))))), (3, 57, .val (.agg (FR .u64 5 (eP F H)))), (4, 58, .val (.agg (FR .u64 5 (cP F H)))), (5, 59, .val (.agg (FR .u64 5 (subE (eP F H) (cP F H))))), (6, 60, .val (.agg (FR .u64 5 (eP F H)))), (7, 61, .val (.agg (FR .u64 5 (cP F H)))), (8, 62, .val (.agg (FR .u64 5 (addE (eP F H) (cP F H))))), (9, 63, .val (.agg (FR .u64 5 (bP F H)))), (10, 64, .val (.agg (FR .u64 5 (aP F H)))), (11, 65, .val (.agg (FR .u64 5 (addE (bP F H) (aP F H))))), (12, 10, .ptr 12 0), (13, 11, .ptr 13 0), (14, 12, .ptr 14 0), (15, 13, .ptr 15 0)] [⟨g1_0, none, none, .u64, 20, F, F, 28⟩, ⟨g1_1, none, none, .u64, 20, H, H, 28⟩, ⟨g1_2, none, none, .u64, 20, fun _ => 0, fun _ => 0, 28⟩, ⟨g2_1, none, none, .u64, 5, smL 2, smL 2, 26⟩, ⟨g3_11, none, none, .u64, 5, aP F H, aP F H, 26⟩, ⟨g4_11, none, none, .u64, 5, bP F H, bP F H, 26⟩, ⟨g5_10, none, none, .u64, 5, cP F H, cP F H, 26⟩, ⟨g6_7, none, none, .u64, 5, eP F H, eP F H, 26⟩, ⟨0, some 12, some 16, .u64, 5, fun _ => 0, subE (bP F H) (aP F H), 26⟩, ⟨0, some 13, some 17, .u64, 5, fun _ => 0, subE (eP F H) (cP F H), 26⟩, ⟨0, some 14, some 18, .u64, 5, fun _ => 0, addE (eP F H) (cP F H), 26⟩, ⟨0, some 15, some 19, .u64, 5, fun _ => 0, addE (bP F H) (aP F H), 26⟩] (by rfl) rfl tabadd_6 bitsadd_6 (by kernel_rfl) (by kernel_rfl) HH6 rfl rfl hLo rfl HS6 (slS 2 rfl rfl (slL 12 (d := 12) rfl (slL 13 (d := 13) rfl (slL 14 (d := 14) rfl (slL 15 (d := 15) rfl (trivial)))))) ?_ ?_
  · show ∀ i ∈ [0, 1, 2, 3, 4, 5, 6, 7, 8, 9, 10, 11, 12, 13, 14, 15, 16, 17, 18, 19], _
    refine steps_cons (st_row0 0 5 _ rfl rfl rfl rfl (fun _ _ _ _ => rfl) hLo rfl rfl rfl (by rfl) Tryd.underlying26 infoEl rfl (fun b G hb ho => ev_off rfl (HS6.get 5 rfl))) ?_
    refine steps_cons (st_row0 1 4 _ rfl rfl rfl rfl (fun _ _ _ _ => rfl) hLo rfl rfl rfl (by rfl) Tryd.underlying26 infoEl rfl (fun b G hb ho => ev_off rfl (HS6.get 4 rfl))) ?_
    refine steps_cons (st_call 2 _ #[.agg (FR .u64 5 (bP F H)), .agg (FR .u64 5 (aP F H))] rfl rfl rfl (fun _ _ _ _ => rfl) hLo rfl rfl Tryd.func33 rfl rfl (fun b G hb ho => args2 (ev_on hLo 0 rfl HS6.1 rfl (hb 0 (by rfl))) (ev_on hLo 1 rfl HS6.1 rfl (hb 1 (by rfl)))) (fun w hw => subE_c _ _ w (bP_Lm hF hH) (aP_Lm hF hH))) ?_
    refine steps_cons (st_row0 3 7 _ rfl rfl rfl rfl (fun _ _ _ _ => rfl) hLo rfl rfl rfl (by rfl) Tryd.underlying26 infoEl rfl (fun b G hb ho => ev_off rfl (HS6.get 7 rfl))) ?_
    refine steps_cons (st_row0 4 6 _ rfl rfl rfl rfl (fun _ _ _ _ => rfl) hLo rfl rfl rfl (by rfl) Tryd.underlying26 infoEl rfl (fun b G hb ho => ev_off rfl (HS6.get 6 rfl))) ?_
    refine steps_cons (st_call 5 _ #[.agg (FR .u64 5 (eP F H)), .agg (FR .u64 5 (cP F H))] rfl rfl rfl (fun _ _ _ _ => rfl) hLo rfl rfl Tryd.func33 rfl rfl (fun b G hb ho => args2 (ev_on hLo 3 rfl HS6.1 rfl (hb 3 (by rfl))) (ev_on hLo 4 rfl HS6.1 rfl (hb 4 (by rfl)))) (fun w hw => subE_c _ _ w (eP_Lm hF hH) (cP_Lm hF hH))) ?_
    refine steps_cons (st_row0 6 7 _ rfl rfl rfl rfl (fun _ _ _ _ => rfl) hLo rfl rfl rfl (by rfl) Tryd.underlying26 infoEl rfl (fun b G hb ho => ev_off rfl (HS6.get 7 rfl))) ?_
    refine steps_cons (st_row0 7 6 _ rfl rfl rfl rfl (fun _ _ _ _ => rfl) hLo rfl rfl rfl (by rfl) Tryd.underlying26 infoEl rfl (fun b G hb ho => ev_off rfl (HS6.get 6 rfl))) ?_
    refine steps_cons (st_call 8 _ #[.agg (FR .u64 5 (eP F H)), .agg (FR .u64 5 (cP F H))] rfl rfl rfl (fun _ _ _ _ => rfl) hLo rfl rfl Tryd.func34 rfl rfl (fun b G hb ho => args2 (ev_on hLo 6 rfl HS6.1 rfl (hb 6 (by rfl))) (ev_on hLo 7 rfl HS6.1 rfl (hb 7 (by rfl)))) (fun w hw => addE_c _ _ w (eP_Lm hF hH) (cP_Lm hF hH))) ?_
    refine steps_cons (st_row0 9 5 _ rfl rfl rfl rfl (fun _ _ _ _ => rfl) hLo rfl rfl rfl (by rfl) Tryd.underlying26 infoEl rfl (fun b G hb ho => ev_off rfl (HS6.get 5 rfl))) ?_
    refine steps_cons (st_row0 10 4 _ rfl rfl rfl rfl (fun _ _ _ _ => rfl) hLo rfl rfl rfl (by rfl) Tryd.underlying26 infoEl rfl (fun b G hb ho => ev_off rfl (HS6.get 4 rfl))) ?_
    refine steps_cons (st_call 11 _ #[.agg (FR .u64 5 (bP F H)), .agg (FR .u64 5 (aP F H))] rfl rfl rfl (fun _ _ _ _ => rfl) hLo rfl rfl Tryd.func34 rfl rfl (fun b G hb ho => args2 (ev_on hLo 9 rfl HS6.1 rfl (hb 9 (by rfl))) (ev_on hLo 10 rfl HS6.1 rfl (hb 10 (by rfl)))) (fun w hw => addE_c _ _ w (bP_Lm hF hH) (aP_Lm hF hH))) ?_
    refine steps_cons (st_alloc 12 8 .u64 5 26 (some 16) _ _ rfl rfl (fun _ _ _ _ => rfl) rfl hLo rfl rfl rfl rfl (by rfl) (fun b G w _ _ => by kernel_rfl)) ?_
    refine steps_cons (st_alloc 13 9 .u64 5 26 (some 17) _ _ rfl rfl (fun _ _ _ _ => rfl) rfl hLo rfl rfl rfl rfl (by rfl) (fun b G w _ _ => by kernel_rfl)) ?_
    refine steps_cons (st_alloc 14 10 .u64 5 26 (some 18) _ _ rfl rfl (fun _ _ _ _ => rfl) rfl hLo rfl rfl rfl rfl (by rfl) (fun b G w _ _ => by kernel_rfl)) ?_
    refine steps_cons (st_alloc 15 11 .u64 5 26 (some 19) _ _ rfl rfl (fun _ _ _ _ => rfl) rfl hLo rfl rfl rfl rfl (by rfl) (fun b G w _ _ => by kernel_rfl)) ?_
    refine steps_cons (st_store 8 _ rfl rfl rfl rfl rfl (fun _ _ _ _ => rfl) rfl rfl rfl (by rfl) infoEl (fun b G hb ho => ev_on hLo 12 rfl HS6.1 rfl (hb 12 (by rfl))) (fun b G hb ho => ev_on hLo 2 rfl HS6.1 rfl (hb 2 (by rfl)))) ?_
    refine steps_cons (st_store 9 _ rfl rfl rfl rfl rfl (fun _ _ _ _ => rfl) rfl rfl rfl (by rfl) infoEl (fun b G hb ho => ev_on hLo 13 rfl HS6.1 rfl (hb 13 (by rfl))) (fun b G hb ho => ev_on hLo 5 rfl HS6.1 rfl (hb 5 (by rfl)))) ?_
    refine steps_cons (st_store 10 _ rfl rfl rfl rfl rfl (fun _ _ _ _ => rfl) rfl rfl rfl (by rfl) infoEl (fun b G hb ho => ev_on hLo 14 rfl HS6.1 rfl (hb 14 (by rfl))) (fun b G hb ho => ev_on hLo 8 rfl HS6.1 rfl (hb 8 (by rfl)))) ?_
    refine steps_cons (st_store 11 _ rfl rfl rfl rfl rfl (fun _ _ _ _ => rfl) rfl rfl rfl (by rfl) infoEl (fun b G hb ho => ev_on hLo 15 rfl HS6.1 rfl (hb 15 (by rfl))) (fun b G hb ho => ev_on hLo 11 rfl HS6.1 rfl (hb 11 (by rfl)))) ?_
    exact steps_nil
  clear hLo
  intro G a7 w7 hS hH
  have HS7 : Sl a7 79 [(4, .pointer (some ⟨g1_2, 0, none⟩)), (10, .pointer (some ⟨(G 12), 0, none⟩)), (11, .pointer (some ⟨(G 13), 0, none⟩)), (12, .pointer (some ⟨(G 14), 0, none⟩)), (13, .pointer (some ⟨(G 15), 0, none⟩))] := hS
  have HH7 : Held w w7 [⟨g1_0, .u64, 20, F, 28⟩, ⟨g1_1, .u64, 20, H, 28⟩, ⟨g1_2, .u64, 20, fun _ => 0, 28⟩, ⟨g2_1, .u64, 5, smL 2, 26⟩, ⟨g3_11, .u64, 5, aP F H, 26⟩, ⟨g4_11, .u64, 5, bP F H, 26⟩, ⟨g5_10, .u64, 5, cP F H, 26⟩, ⟨g6_7, .u64, 5, eP F H, 26⟩, ⟨(G 12), .u64, 5, fP F H, 26⟩, ⟨(G 13), .u64, 5, gP F H, 26⟩, ⟨(G 14), .u64, 5, hP F H, 26⟩, ⟨(G 15), .u64, 5, iP F H, 26⟩] := hH
  clear hS hH HS6 HH6
  generalize G 12 = g7_12 at HS7 HH7
  generalize G 13 = g7_13 at HS7 HH7
  generalize G 14 = g7_14 at HS7 HH7
  generalize G 15 = g7_15 at HS7 HH7
  refine then_ ?_
  refine wp_seq ?_
  have hLo : LOk [(0, 66, .val (.agg (FR .u64 5 (fP F H)))), (1, 67, .val (.agg (FR .u64 5 (gP F H)))), (2, 68, .val (.agg (FR .u64 5 (mulE (fP F H) (gP F H))))), (3, 69, .val (.agg (FR .u64 5 (hP F H)))), (4, 70, .val (.agg (FR .u64 5 (iP F H)))), (5, 71, .val (.agg (FR .u64 5 (mulE (hP F H) (iP F H))))), (6, 72, .val (.agg (FR .u64 5 (gP F H)))), (7, 73, .val (.agg (FR .u64 5 (hP F H)))), (8, 74, .val (.agg (FR .u64 5 (mulE (gP F H) (hP F H))))), (9, 75, .val (.agg (FR .u64 5 (fP F H)))), (10, 76, .val (.agg (FR .u64 5 (iP F H)))), (11, 77, .val (.agg (FR .u64 5 (mulE (fP F H) (iP F H))))), (12, 78, .val (.agg (FR .u64 20 (pt4 (mulE (fP F H) (gP F H)) (mulE (hP F H) (iP F H)) (mulE (gP F H) (hP F H)) (mulE (fP F H) (iP F H))))))] := ⟨show ([0, 1, 2, 3, 4, 5, 6, 7, 8, 9, 10, 11, 12] : List Nat).Nodup by decide, show ([66, 67, 68, 69, 70, 71, 72, 73, 74, 75, 76, 77, 78] : List Nat).Nodup by decide⟩
  refine region_ (wE := w) (sz := 79) (n := 14) (B := [0, 0, 3, 0, 0, 31, 0, 0, 255, 0, 0, 2047, 4095, 8191]) [0, 1, 2, 3, 4, 5, 6, 7, 8, 9, 10, 11, 12, 13] [(4, .val (.pointer (some ⟨g1_2, 0, none⟩)))] [(0, 66, .val (.agg (FR .u64 5 (fP F H)))), (1, 67, .val (.agg (FR .u64 5 (gP F H)))), (2, 68, .val (.agg (FR .u64 5 (mulE (fP F H) (gP F H))))), (3, 69, .val (.agg (FR .u64 5 (hP F H)))), (4, 70, .val (.agg (FR .u64 5 (iP F H)))), (5, 71, .val (.agg (FR .u64 5 (mulE (hP F H) (iP F H))))), (6, 72, .val (.agg (FR .u64 5 (gP F H)))), (7, 73, .val (.agg (FR .u64 5 (hP F H)))), (8, 74, .val (.agg (FR .u64 5 (mulE (gP F H) (hP F H))))), (9, 75, .val (.agg (FR .u64 5 (fP F H)))), (10, 76, .val (.agg (FR .u64 5 (iP F H)))), (11, 77, .val (.agg (FR .u64 5 (mulE (fP F H) (iP F H))))), (12, 78, .val (.agg (FR .u64 20 (pt4 (mulE (fP F H) (gP F H)) (mulE (hP F H) (iP F H)) (mulE (gP F H) (hP F H)) (mulE (fP F H) (iP F H))))))] [⟨g1_0, none, none, .u64, 20, F, F, 28⟩, ⟨g1_1, none, none, .u64, 20, H, H, 28⟩, ⟨g1_2, none, some 13, .u64, 20, fun _ => 0, pt4 (mulE (fP F H) (gP F H)) (mulE (hP F H) (iP F H)) (mulE (gP F H) (hP F H)) (mulE (fP F H) (iP F H)), 28⟩, ⟨g2_1, none, none, .u64, 5, smL 2, smL 2, 26⟩, ⟨g3_11, none, none, .u64, 5, aP F H, aP F H, 26⟩, ⟨g4_11, none, none, .u64, 5, bP F H, bP F H, 26⟩, ⟨g5_10, none, none, .u64, 5, cP F H, cP F H, 26⟩, ⟨g6_7, none, none, .u64, 5, eP F H, eP F H, 26⟩, ⟨g7_12, none, none, .u64, 5, fP F H, fP F H, 26⟩, ⟨g7_13, none, none, .u64, 5, gP F H, gP F H, 26⟩, ⟨g7_14, none, none, .u64, 5, hP F H, hP F H, 26⟩, ⟨g7_15, none, none, .u64, 5, iP F H, iP F H, 26⟩] (by rfl) rfl tabadd_7 bitsadd_7 (by kernel_rfl) (by kernel_rfl) HH7 rfl rfl hLo rfl HS7 (slS 0 rfl rfl (trivial)) ?_ ?_
  · show ∀ i ∈ [0, 1, 2, 3, 4, 5, 6, 7, 8, 9, 10, 11, 12, 13], _
    refine steps_cons (st_row0 0 8 _ rfl rfl rfl rfl (fun _ _ _ _ => rfl) hLo rfl rfl rfl (by rfl) Tryd.underlying26 infoEl rfl (fun b G hb ho => ev_off rfl (HS7.get 1 rfl))) ?_
    refine steps_cons (st_row0 1 9 _ rfl rfl rfl rfl (fun _ _ _ _ => rfl) hLo rfl rfl rfl (by rfl) Tryd.underlying26 infoEl rfl (fun b G hb ho => ev_off rfl (HS7.get 2 rfl))) ?_
    refine steps_cons (st_call 2 _ #[.agg (FR .u64 5 (fP F H)), .agg (FR .u64 5 (gP F H))] rfl rfl rfl (fun _ _ _ _ => rfl) hLo rfl rfl Tryd.func29 rfl rfl (fun b G hb ho => args2 (ev_on hLo 0 rfl HS7.1 rfl (hb 0 (by rfl))) (ev_on hLo 1 rfl HS7.1 rfl (hb 1 (by rfl)))) (fun w hw => elem_mul_calls _ _ w (fP_Lm hF hH) (gP_Lm hF hH))) ?_
    refine steps_cons (st_row0 3 10 _ rfl rfl rfl rfl (fun _ _ _ _ => rfl) hLo rfl rfl rfl (by rfl) Tryd.underlying26 infoEl rfl (fun b G hb ho => ev_off rfl (HS7.get 3 rfl))) ?_
    refine steps_cons (st_row0 4 11 _ rfl rfl rfl rfl (fun _ _ _ _ => rfl) hLo rfl rfl rfl (by rfl) Tryd.underlying26 infoEl rfl (fun b G hb ho => ev_off rfl (HS7.get 4 rfl))) ?_
    refine steps_cons (st_call 5 _ #[.agg (FR .u64 5 (hP F H)), .agg (FR .u64 5 (iP F H))] rfl rfl rfl (fun _ _ _ _ => rfl) hLo rfl rfl Tryd.func29 rfl rfl (fun b G hb ho => args2 (ev_on hLo 3 rfl HS7.1 rfl (hb 3 (by rfl))) (ev_on hLo 4 rfl HS7.1 rfl (hb 4 (by rfl)))) (fun w hw => elem_mul_calls _ _ w (hP_Lm hF hH) (iP_Lm hF hH))) ?_
    refine steps_cons (st_row0 6 9 _ rfl rfl rfl rfl (fun _ _ _ _ => rfl) hLo rfl rfl rfl (by rfl) Tryd.underlying26 infoEl rfl (fun b G hb ho => ev_off rfl (HS7.get 2 rfl))) ?_
    refine steps_cons (st_row0 7 10 _ rfl rfl rfl rfl (fun _ _ _ _ => rfl) hLo rfl rfl rfl (by rfl) Tryd.underlying26 infoEl rfl (fun b G hb ho => ev_off rfl (HS7.get 3 rfl))) ?_
    refine steps_cons (st_call 8 _ #[.agg (FR .u64 5 (gP F H)), .agg (FR .u64 5 (hP F H))] rfl rfl rfl (fun _ _ _ _ => rfl) hLo rfl rfl Tryd.func29 rfl rfl (fun b G hb ho => args2 (ev_on hLo 6 rfl HS7.1 rfl (hb 6 (by rfl))) (ev_on hLo 7 rfl HS7.1 rfl (hb 7 (by rfl)))) (fun w hw => elem_mul_calls _ _ w (gP_Lm hF hH) (hP_Lm hF hH))) ?_
    refine steps_cons (st_row0 9 8 _ rfl rfl rfl rfl (fun _ _ _ _ => rfl) hLo rfl rfl rfl (by rfl) Tryd.underlying26 infoEl rfl (fun b G hb ho => ev_off rfl (HS7.get 1 rfl))) ?_
    refine steps_cons (st_row0 10 11 _ rfl rfl rfl rfl (fun _ _ _ _ => rfl) hLo rfl rfl rfl (by rfl) Tryd.underlying26 infoEl rfl (fun b G hb ho => ev_off rfl (HS7.get 4 rfl))) ?_
    refine steps_cons (st_call 11 _ #[.agg (FR .u64 5 (fP F H)), .agg (FR .u64 5 (iP F H))] rfl rfl rfl (fun _ _ _ _ => rfl) hLo rfl rfl Tryd.func29 rfl rfl (fun b G hb ho => args2 (ev_on hLo 9 rfl HS7.1 rfl (hb 9 (by rfl))) (ev_on hLo 10 rfl HS7.1 rfl (hb 10 (by rfl)))) (fun w hw => elem_mul_calls _ _ w (fP_Lm hF hH) (iP_Lm hF hH))) ?_
    refine steps_cons (st_run 12 _ rfl rfl hLo rfl rfl (fun _ _ _ _ => rfl) (fun b G w hb ho => exec_build rfl (parts4 (ev_on hLo 2 rfl HS7.1 rfl (hb 2 (by rfl))) (ev_on hLo 5 rfl HS7.1 rfl (hb 5 (by rfl))) (ev_on hLo 8 rfl HS7.1 rfl (hb 8 (by rfl))) (ev_on hLo 11 rfl HS7.1 rfl (hb 11 (by rfl)))) (build_pt _ _ _ _ _))) ?_
    refine steps_cons (st_store 2 _ rfl rfl rfl rfl rfl (fun _ _ _ _ => rfl) rfl rfl rfl (by rfl) infoPt (fun b G hb ho => ev_off rfl (HS7.get 0 rfl)) (fun b G hb ho => ev_on hLo 12 rfl HS7.1 rfl (hb 12 (by rfl)))) ?_
    exact steps_nil
  clear hLo
  intro G a8 w8 hS hH
  have HS8 : Sl a8 79 [(4, .pointer (some ⟨g1_2, 0, none⟩))] := hS
  have HH8 : Held w w8 [⟨g1_0, .u64, 20, F, 28⟩, ⟨g1_1, .u64, 20, H, 28⟩, ⟨g1_2, .u64, 20, addP F H, 28⟩, ⟨g2_1, .u64, 5, smL 2, 26⟩, ⟨g3_11, .u64, 5, aP F H, 26⟩, ⟨g4_11, .u64, 5, bP F H, 26⟩, ⟨g5_10, .u64, 5, cP F H, 26⟩, ⟨g6_7, .u64, 5, eP F H, 26⟩, ⟨g7_12, .u64, 5, fP F H, 26⟩, ⟨g7_13, .u64, 5, gP F H, 26⟩, ⟨g7_14, .u64, 5, hP F H, 26⟩, ⟨g7_15, .u64, 5, iP F H, 26⟩] := hH
  clear hS hH HS7 HH7
  refine then_ ?_
  exact ret_row rfl HS8.2.1 (HS8.get 0 rfl) (HH8.row 2 rfl) Tryd.underlying28 rfl infoPt ⟨rfl, HH8.1⟩
end Go.Proofs.YtaaipbhfikefaaaDoor.P
end

section
namespace Go.Proofs.YtaaipbhfikefaaaDoor.P
set_option linter.unusedVariables false
set_option linter.unusedSimpArgs false
open Go.RowKit Go.ChangeShapes Go.WideShapes Go.Proofs.YtaaipbhfikefaaaDoorW.PrintWords Go.Proofs.YtaaipbhfikefaaaDoorW.PrintLast Go.Proofs.YtaaipbhfikefaaaDoorW.PrintMore
open Go.Proofs.YtaaipbhfikefaaaDoor.P.Fd
def dR : Nat → Int := numD dB
theorem dR_Re : Re dR (N32 dB) := Re.num dB dB_By
theorem dR_Rn : Rn dR := dR_Re.1
def oneR : Nat → Int := carryN (fun i => if i = 0 then 1 else 0) 16
def zeroRP : Nat → Int := pr4 (fun _ => 0) oneR oneR fun _ => 0
def negRP (F : Nat → Int) : Nat → Int := pr4 (subR (fun _ => 0) (co F 0)) (co F 16) (co F 32) (subR (fun _ => 0) (co F 48))
def xR (F H : Nat → Int) : Nat → Int := mulR (co F 0) (co H 0)
def yR (F H : Nat → Int) : Nat → Int := mulR (co F 16) (co H 16)
def zR (F H : Nat → Int) : Nat → Int := mulR (co F 32) (co H 32)
def tR (F H : Nat → Int) : Nat → Int := mulR (mulR (co F 48) (co H 48)) dR
def crR (F H : Nat → Int) : Nat → Int := subR (mulR (addR (co F 0) (co F 16)) (addR (co H 0) (co H 16))) (addR (xR F H) (yR F H))
def loR (F H : Nat → Int) : Nat → Int := subR (zR F H) (tR F H)
def hiR (F H : Nat → Int) : Nat → Int := addR (zR F H) (tR F H)
def suR (F H : Nat → Int) : Nat → Int := addR (yR F H) (xR F H)
def addRP (F H : Nat → Int) : Nat → Int := pr4 (mulR (crR F H) (loR F H)) (mulR (hiR F H) (suR F H)) (mulR (loR F H) (hiR F H)) (mulR (crR F H) (suR F H))
theorem xR_Rn {F H : Nat → Int} (hF : PR F) (hH : PR H) : Rn (xR F H) := rmul hF.1 hH.1
theorem yR_Rn {F H : Nat → Int} (hF : PR F) (hH : PR H) : Rn (yR F H) := rmul hF.2.1 hH.2.1
theorem zR_Rn {F H : Nat → Int} (hF : PR F) (hH : PR H) : Rn (zR F H) := rmul hF.2.2.1 hH.2.2.1
theorem tR_Rn {F H : Nat → Int} (hF : PR F) (hH : PR H) : Rn (tR F H) := rmul (rmul hF.2.2.2 hH.2.2.2) dR_Rn
theorem crR_Rn {F H : Nat → Int} (hF : PR F) (hH : PR H) : Rn (crR F H) := rsub (rmul (radd hF.1 hF.2.1) (radd hH.1 hH.2.1)) (radd (xR_Rn hF hH) (yR_Rn hF hH))
theorem loR_Rn {F H : Nat → Int} (hF : PR F) (hH : PR H) : Rn (loR F H) := rsub (zR_Rn hF hH) (tR_Rn hF hH)
theorem hiR_Rn {F H : Nat → Int} (hF : PR F) (hH : PR H) : Rn (hiR F H) := radd (zR_Rn hF hH) (tR_Rn hF hH)
theorem suR_Rn {F H : Nat → Int} (hF : PR F) (hH : PR H) : Rn (suR F H) := radd (yR_Rn hF hH) (xR_Rn hF hH)
theorem addRP_PR {F H : Nat → Int} (hF : PR F) (hH : PR H) : PR (addRP F H) := pr_pr (rmul (crR_Rn hF hH) (loR_Rn hF hH)) (rmul (hiR_Rn hF hH) (suR_Rn hF hH)) (rmul (loR_Rn hF hH) (hiR_Rn hF hH)) (rmul (crR_Rn hF hH) (suR_Rn hF hH))
end Go.Proofs.YtaaipbhfikefaaaDoor.P
end

section
namespace Go.Proofs.YtaaipbhfikefaaaDoor.P
set_option linter.unusedVariables false
set_option linter.unusedSimpArgs false
open Go.RowKit Go.ChangeShapes Go.WideShapes Go.Proofs.YtaaipbhfikefaaaDoorW.PrintWords Go.Proofs.YtaaipbhfikefaaaDoorW.PrintLast Go.Proofs.YtaaipbhfikefaaaDoorW.PrintMore
open Go.Proofs.YtaaipbhfikefaaaDoor.P.Fd
theorem or_run (x : Int) (w : World) : (do eqGuard .or 5 (.tmp 19) (.const (.int .u8 128)) (.int .u8 x) (.int .u8 128); binOp .or 5 (.int .u8 x) (.int .u8 128) : Sem Value).run Tryd.prog w = .ok (.int .u8 (Go.bits .or .u8 x 128)) w := by rfl
theorem rinv {g : Nat → Int} (hg : Rn g) : Rn (invR g) := (Re.pow (n := V16 g) ⟨hg, rfl⟩ (exB 255 21) 256).1
/-- A point's x and y, as numbers of the prime. -/
def yE (F : Nat → Int) : Nat → Int := mulE (co F 5) (invE (co F 10))
def xE (F : Nat → Int) : Nat → Int := mulE (co F 0) (invE (co F 10))
theorem yE_Lm {F : Nat → Int} (hF : PL F) : Lm (yE F) := lmul hF.2.1 (linv hF.2.2.1)
theorem xE_Lm {F : Nat → Int} (hF : PL F) : Lm (xE F) := lmul hF.1 (linv hF.2.2.1)
def yB (F : Nat → Int) : Nat → Int := dig 256 (V51 (yE F) % PP)
def oddE (F : Nat → Int) : Bool := decide (V51 (xE F) % PP % 2 = 1)
def bytesP (F : Nat → Int) : Nat → Int := if oddE F then upd (yB F) 31 (Go.bits .or .u8 (yB F 31) 128) else yB F
theorem bytesP_n {F Y : Nat → Int} (h : oddE F = false) (hY : yB F = Y) : bytesP F = Y := by unfold bytesP; rw [h, if_neg (by decide)]; exact hY
theorem bytesP_y {F Y : Nat → Int} (h : oddE F = true) (hY : yB F = Y) : bytesP F = upd Y 31 (Go.bits .or .u8 (Y 31) 128) := by unfold bytesP; rw [h, if_pos rfl, hY]
theorem bytes_r {f Y : Nat → Int} (hf : Lm f) (h : dig 256 (V51 f % PP) = Y) (w : World) : Calls Tryd.prog 30 #[.agg (FR .u64 5 f)] w fun e w' => e = .returned (.agg (FR .u8 32 Y)) ∧ Below w.heap.size w w' := by
  rw [← h]; exact elem_bytes_calls f w hf.c
theorem odd_r {f : Nat → Int} {r : Bool} (hf : Lm f) (h : decide (V51 f % PP % 2 = 1) = r) (w : World) : Calls Tryd.prog 31 #[.agg (FR .u64 5 f)] w fun e w' => e = .returned (.bool r) ∧ Below w.heap.size w w' := by
  rw [← h]; exact elem_odd_calls f w hf.c
theorem is_r {f g : Nat → Int} {r : Bool} (hf : Lm f) (hg : Lm g) (h : decide (V51 f % PP = V51 g % PP) = r) (w : World) : Calls Tryd.prog 36 #[.agg (FR .u64 5 f), .agg (FR .u64 5 g)] w fun e w' => e = .returned (.bool r) ∧ Below w.heap.size w w' := by
  rw [← h]; exact elem_is_calls f g w hf.c hg.c
theorem bytes_pt (F : Nat → Int) (w : World) (hF : PL F) : Calls Tryd.prog 11 #[.agg (FR .u64 20 F)] w fun e w' => e = .returned (.agg (FR .u8 32 (bytesP F))) ∧ Below w.heap.size w w' := by
  obtain ⟨r, hr⟩ : ∃ r, oddE F = r := ⟨_, rfl⟩
  obtain ⟨Y, hY⟩ : ∃ Y, yB F = Y := ⟨_, rfl⟩
  refine enter_ 23 Tryd.func11 rfl rfl (fun a0 hS => ?_)
  have HS0 : Sl a0 23 [(0, .agg (FR .u64 20 F))] := hS
  have HH0 : Held w w [] := Held.first w
  clear hS
  refine wp_seq ?_
  have hLo : LOk [(0, 1, .ptr 0 0), (1, 2, .ptr 1 0)] := ⟨show ([0, 1] : List Nat).Nodup by decide, show ([1, 2] : List Nat).Nodup by decide⟩
  refine plain_ (wE := w) (sz := 23) (n := 2) [0, 1] [(1, .ptr 0 0), (2, .ptr 1 0)] [(0, 1, .ptr 0 0), (1, 2, .ptr 1 0)] [⟨0, some 0, none, .u64, 20, F, F, 28⟩, ⟨0, some 1, none, .u8, 32, fun _ => 0, fun _ => 0, 22⟩] rfl (by rfl) HH0 rfl rfl hLo rfl HS0 (slL 0 (d := 0) rfl (slL 1 (d := 1) rfl (trivial))) ?_ ?_
  · show ∀ i ∈ [0, 1], _
    refine steps_cons (st_alloc 0 0 .u64 20 28 none _ _ rfl rfl (fun _ _ _ _ => rfl) rfl hLo rfl rfl rfl rfl (by rfl) (fun b G w hb ho => exec_box rfl (ev_off rfl (HS0.get 0 rfl)) (by kernel_rfl))) ?_
    refine steps_cons (st_alloc 1 1 .u8 32 22 none _ _ rfl rfl (fun _ _ _ _ => rfl) rfl hLo rfl rfl rfl rfl (by rfl) (fun b G w _ _ => by kernel_rfl)) ?_
    exact steps_nil
  clear hLo
  intro G a1 w1 hS hH
  have HS1 : Sl a1 23 [(1, .pointer (some ⟨(G 0), 0, none⟩)), (2, .pointer (some ⟨(G 1), 0, none⟩))] := hS
  have HH1 : Held w w1 [⟨(G 0), .u64, 20, F, 28⟩, ⟨(G 1), .u8, 32, fun _ => 0, 22⟩] := hH
  clear hS hH HS0 HH0
  generalize G 0 = g1_0 at HS1 HH1
  generalize G 1 = g1_1 at HS1 HH1
  refine then_ ?_
  refine wp_seq ?_
  have hLo : LOk [(0, 5, .val (.pointer (some ⟨g1_0, 10, none⟩))), (1, 6, .val (.agg (FR .u64 5 (co (F) 10)))), (2, 7, .val (.agg (FR .u64 5 (invE (co (F) 10))))), (3, 3, .ptr 3 0)] := ⟨show ([0, 1, 2, 3] : List Nat).Nodup by decide, show ([5, 6, 7, 3] : List Nat).Nodup by decide⟩
  refine plain_ (wE := w) (sz := 23) (n := 5) [0, 1, 3, 7, 15] [(1, .val (.pointer (some ⟨g1_0, 0, none⟩))), (2, .val (.pointer (some ⟨g1_1, 0, none⟩))), (3, .ptr 3 0)] [(0, 5, .val (.pointer (some ⟨g1_0, 10, none⟩))), (1, 6, .val (.agg (FR .u64 5 (co (F) 10)))), (2, 7, .val (.agg (FR .u64 5 (invE (co (F) 10))))), (3, 3, .ptr 3 0)] [⟨g1_0, none, none, .u64, 20, F, F, 28⟩, ⟨g1_1, none, none, .u8, 32, fun _ => 0, fun _ => 0, 22⟩, ⟨0, some 3, some 4, .u64, 5, fun _ => 0, invE (co (F) 10), 26⟩] rfl (by rfl) HH1 rfl rfl hLo rfl HS1 (slS 0 rfl rfl (slS 1 rfl rfl (slL 3 (d := 3) rfl (trivial)))) ?_ ?_
  · show ∀ i ∈ [0, 1, 2, 3, 4], _
    refine steps_cons (st_run 0 _ rfl rfl hLo rfl rfl (fun _ _ _ _ => rfl) (fun b G w hb ho => exec_field rfl (ev_off rfl (HS1.get 0 rfl)) (by kernel_rfl))) ?_
    refine steps_cons (st_load0 1 0 _ 10 5 rfl rfl rfl rfl (fun _ _ _ _ => rfl) hLo rfl rfl rfl (by rfl) (Nat.le_of_ble_eq_true rfl) Tryd.underlying26 infoEl rfl (fun b G hb ho => ev_on hLo 0 rfl HS1.1 rfl (hb 0 (by rfl)))) ?_
    refine steps_cons (st_call 2 _ #[.agg (FR .u64 5 (co (F) 10))] rfl rfl rfl (fun _ _ _ _ => rfl) hLo rfl rfl Tryd.func28 rfl rfl (fun b G hb ho => args1 (ev_on hLo 1 rfl HS1.1 rfl (hb 1 (by rfl)))) (fun w hw => invE_calls _ w (hF).2.2.1)) ?_
    refine steps_cons (st_alloc 3 2 .u64 5 26 (some 4) _ _ rfl rfl (fun _ _ _ _ => rfl) rfl hLo rfl rfl rfl rfl (by rfl) (fun b G w _ _ => by kernel_rfl)) ?_
    refine steps_cons (st_store 2 _ rfl rfl rfl rfl rfl (fun _ _ _ _ => rfl) rfl rfl rfl (by rfl) infoEl (fun b G hb ho => ev_on hLo 3 rfl HS1.1 rfl (hb 3 (by rfl))) (fun b G hb ho => ev_on hLo 2 rfl HS1.1 rfl (hb 2 (by rfl)))) ?_
    exact steps_nil
  clear hLo
  intro G a2 w2 hS hH
  have HS2 : Sl a2 23 [(1, .pointer (some ⟨g1_0, 0, none⟩)), (2, .pointer (some ⟨g1_1, 0, none⟩)), (3, .pointer (some ⟨(G 3), 0, none⟩))] := hS
  have HH2 : Held w w2 [⟨g1_0, .u64, 20, F, 28⟩, ⟨g1_1, .u8, 32, fun _ => 0, 22⟩, ⟨(G 3), .u64, 5, invE (co F 10), 26⟩] := hH
  clear hS hH HS1 HH1
  generalize G 3 = g2_3 at HS2 HH2
  refine then_ ?_
  refine wp_seq ?_
  have hLo : LOk [(0, 8, .val (.pointer (some ⟨g1_0, 5, none⟩))), (1, 9, .val (.agg (FR .u64 5 (co (F) 5)))), (2, 10, .val (.agg (FR .u64 5 (invE (co F 10))))), (3, 11, .val (.agg (FR .u64 5 (mulE (co (F) 5) (invE (co F 10)))))), (4, 12, .val (.agg (FR .u8 32 (Y)))), (5, 4, .ptr 5 0)] := ⟨show ([0, 1, 2, 3, 4, 5] : List Nat).Nodup by decide, show ([8, 9, 10, 11, 12, 4] : List Nat).Nodup by decide⟩
  refine plain_ (wE := w) (sz := 23) (n := 7) [0, 1, 3, 7, 15, 31, 63] [(1, .val (.pointer (some ⟨g1_0, 0, none⟩))), (2, .val (.pointer (some ⟨g1_1, 0, none⟩))), (3, .val (.pointer (some ⟨g2_3, 0, none⟩))), (4, .ptr 5 0)] [(0, 8, .val (.pointer (some ⟨g1_0, 5, none⟩))), (1, 9, .val (.agg (FR .u64 5 (co (F) 5)))), (2, 10, .val (.agg (FR .u64 5 (invE (co F 10))))), (3, 11, .val (.agg (FR .u64 5 (mulE (co (F) 5) (invE (co F 10)))))), (4, 12, .val (.agg (FR .u8 32 (Y)))), (5, 4, .ptr 5 0)] [⟨g1_0, none, none, .u64, 20, F, F, 28⟩, ⟨g1_1, none, none, .u8, 32, fun _ => 0, fun _ => 0, 22⟩, ⟨g2_3, none, none, .u64, 5, invE (co F 10), invE (co F 10), 26⟩, ⟨0, some 5, some 6, .u8, 32, fun _ => 0, Y, 22⟩] rfl (by rfl) HH2 rfl rfl hLo rfl HS2 (slS 0 rfl rfl (slS 1 rfl rfl (slS 2 rfl rfl (slL 5 (d := 5) rfl (trivial))))) ?_ ?_
  · show ∀ i ∈ [0, 1, 2, 3, 4, 5, 6], _
    refine steps_cons (st_run 0 _ rfl rfl hLo rfl rfl (fun _ _ _ _ => rfl) (fun b G w hb ho => exec_field rfl (ev_off rfl (HS2.get 0 rfl)) (by kernel_rfl))) ?_
    refine steps_cons (st_load0 1 0 _ 5 5 rfl rfl rfl rfl (fun _ _ _ _ => rfl) hLo rfl rfl rfl (by rfl) (Nat.le_of_ble_eq_true rfl) Tryd.underlying26 infoEl rfl (fun b G hb ho => ev_on hLo 0 rfl HS2.1 rfl (hb 0 (by rfl)))) ?_
    refine steps_cons (st_row0 2 2 _ rfl rfl rfl rfl (fun _ _ _ _ => rfl) hLo rfl rfl rfl (by rfl) Tryd.underlying26 infoEl rfl (fun b G hb ho => ev_off rfl (HS2.get 2 rfl))) ?_
    refine steps_cons (st_call 3 _ #[.agg (FR .u64 5 (co (F) 5)), .agg (FR .u64 5 (invE (co F 10)))] rfl rfl rfl (fun _ _ _ _ => rfl) hLo rfl rfl Tryd.func29 rfl rfl (fun b G hb ho => args2 (ev_on hLo 1 rfl HS2.1 rfl (hb 1 (by rfl))) (ev_on hLo 2 rfl HS2.1 rfl (hb 2 (by rfl)))) (fun w hw => elem_mul_calls _ _ w (hF).2.1 (linv hF.2.2.1))) ?_
    refine steps_cons (st_call 4 _ #[.agg (FR .u64 5 (mulE (co (F) 5) (invE (co F 10))))] rfl rfl rfl (fun _ _ _ _ => rfl) hLo rfl rfl Tryd.func30 rfl rfl (fun b G hb ho => args1 (ev_on hLo 3 rfl HS2.1 rfl (hb 3 (by rfl)))) (fun w hw => bytes_r (yE_Lm hF) hY w)) ?_
    refine steps_cons (st_alloc 5 3 .u8 32 22 (some 6) _ _ rfl rfl (fun _ _ _ _ => rfl) rfl hLo rfl rfl rfl rfl (by rfl) (fun b G w _ _ => by kernel_rfl)) ?_
    refine steps_cons (st_store 3 _ rfl rfl rfl rfl rfl (fun _ _ _ _ => rfl) rfl rfl rfl (by rfl) infoB3 (fun b G hb ho => ev_on hLo 5 rfl HS2.1 rfl (hb 5 (by rfl))) (fun b G hb ho => ev_on hLo 4 rfl HS2.1 rfl (hb 4 (by rfl)))) ?_
    exact steps_nil
  clear hLo
  intro G a3 w3 hS hH
  have HS3 : Sl a3 23 [(1, .pointer (some ⟨g1_0, 0, none⟩)), (2, .pointer (some ⟨g1_1, 0, none⟩)), (3, .pointer (some ⟨g2_3, 0, none⟩)), (4, .pointer (some ⟨(G 5), 0, none⟩))] := hS
  have HH3 : Held w w3 [⟨g1_0, .u64, 20, F, 28⟩, ⟨g1_1, .u8, 32, fun _ => 0, 22⟩, ⟨g2_3, .u64, 5, invE (co F 10), 26⟩, ⟨(G 5), .u8, 32, Y, 22⟩] := hH
  clear hS hH HS2 HH2
  generalize G 5 = g3_5 at HS3 HH3
  refine then_ ?_
  refine wp_seq ?_
  refine wp_seq ?_
  have hLo : LOk [(0, 13, .val (.pointer (some ⟨g1_0, 0, none⟩))), (1, 14, .val (.agg (FR .u64 5 (co (F) 0)))), (2, 15, .val (.agg (FR .u64 5 (invE (co F 10))))), (3, 16, .val (.agg (FR .u64 5 (mulE (co (F) 0) (invE (co F 10)))))), (4, 17, .val (.bool r))] := ⟨show ([0, 1, 2, 3, 4] : List Nat).Nodup by decide, show ([13, 14, 15, 16, 17] : List Nat).Nodup by decide⟩
  refine plain_ (wE := w) (sz := 23) (n := 5) [0, 1, 3, 7, 15] [(2, .val (.pointer (some ⟨g1_1, 0, none⟩))), (4, .val (.pointer (some ⟨g3_5, 0, none⟩))), (17, .val (.bool r))] [(0, 13, .val (.pointer (some ⟨g1_0, 0, none⟩))), (1, 14, .val (.agg (FR .u64 5 (co (F) 0)))), (2, 15, .val (.agg (FR .u64 5 (invE (co F 10))))), (3, 16, .val (.agg (FR .u64 5 (mulE (co (F) 0) (invE (co F 10)))))), (4, 17, .val (.bool r))] [⟨g1_0, none, none, .u64, 20, F, F, 28⟩, ⟨g1_1, none, none, .u8, 32, fun _ => 0, fun _ => 0, 22⟩, ⟨g2_3, none, none, .u64, 5, invE (co F 10), invE (co F 10), 26⟩, ⟨g3_5, none, none, .u8, 32, Y, Y, 22⟩] rfl (by rfl) HH3 rfl rfl hLo rfl HS3 (slS 1 rfl rfl (slS 3 rfl rfl (slL 4 (d := 4) rfl (trivial)))) ?_ ?_
  · show ∀ i ∈ [0, 1, 2, 3, 4], _
    refine steps_cons (st_run 0 _ rfl rfl hLo rfl rfl (fun _ _ _ _ => rfl) (fun b G w hb ho => exec_field rfl (ev_off rfl (HS3.get 0 rfl)) (by kernel_rfl))) ?_
    refine steps_cons (st_load0 1 0 _ 0 5 rfl rfl rfl rfl (fun _ _ _ _ => rfl) hLo rfl rfl rfl (by rfl) (Nat.le_of_ble_eq_true rfl) Tryd.underlying26 infoEl rfl (fun b G hb ho => ev_on hLo 0 rfl HS3.1 rfl (hb 0 (by rfl)))) ?_
    refine steps_cons (st_row0 2 2 _ rfl rfl rfl rfl (fun _ _ _ _ => rfl) hLo rfl rfl rfl (by rfl) Tryd.underlying26 infoEl rfl (fun b G hb ho => ev_off rfl (HS3.get 2 rfl))) ?_
    refine steps_cons (st_call 3 _ #[.agg (FR .u64 5 (co (F) 0)), .agg (FR .u64 5 (invE (co F 10)))] rfl rfl rfl (fun _ _ _ _ => rfl) hLo rfl rfl Tryd.func29 rfl rfl (fun b G hb ho => args2 (ev_on hLo 1 rfl HS3.1 rfl (hb 1 (by rfl))) (ev_on hLo 2 rfl HS3.1 rfl (hb 2 (by rfl)))) (fun w hw => elem_mul_calls _ _ w (hF).1 (linv hF.2.2.1))) ?_
    refine steps_cons (st_call 4 _ #[.agg (FR .u64 5 (mulE (co (F) 0) (invE (co F 10))))] rfl rfl rfl (fun _ _ _ _ => rfl) hLo rfl rfl Tryd.func31 rfl rfl (fun b G hb ho => args1 (ev_on hLo 3 rfl HS3.1 rfl (hb 3 (by rfl)))) (fun w hw => odd_r (xE_Lm hF) hr w)) ?_
    exact steps_nil
  clear hLo
  intro G a4 w4 hS hH
  have HS4 : Sl a4 23 [(2, .pointer (some ⟨g1_1, 0, none⟩)), (4, .pointer (some ⟨g3_5, 0, none⟩)), (17, .bool r)] := hS
  have HH4 : Held w w4 [⟨g1_0, .u64, 20, F, 28⟩, ⟨g1_1, .u8, 32, fun _ => 0, 22⟩, ⟨g2_3, .u64, 5, invE (co F 10), 26⟩, ⟨g3_5, .u8, 32, Y, 22⟩] := hH
  clear hS hH HS3 HH3
  refine then_ ?_
  cases r
  · skip
    refine wp_cond_false (HS4.get 2 rfl) ?_
    refine wp_skip ?_
    refine then_ ?_
    refine wp_seq ?_
    have hLo : LOk [(0, 22, .val (.agg (FR .u8 32 (Y))))] := ⟨show ([0] : List Nat).Nodup by decide, show ([22] : List Nat).Nodup by decide⟩
    refine plain_ (wE := w) (sz := 23) (n := 2) [0, 1] [(2, .val (.pointer (some ⟨g1_1, 0, none⟩)))] [(0, 22, .val (.agg (FR .u8 32 (Y))))] [⟨g1_0, none, none, .u64, 20, F, F, 28⟩, ⟨g1_1, none, some 1, .u8, 32, fun _ => 0, Y, 22⟩, ⟨g2_3, none, none, .u64, 5, invE (co F 10), invE (co F 10), 26⟩, ⟨g3_5, none, none, .u8, 32, Y, Y, 22⟩] rfl (by rfl) HH4 rfl rfl hLo rfl HS4 (slS 0 rfl rfl (trivial)) ?_ ?_
    · show ∀ i ∈ [0, 1], _
      refine steps_cons (st_row0 0 3 _ rfl rfl rfl rfl (fun _ _ _ _ => rfl) hLo rfl rfl rfl (by rfl) Tryd.underlying22 infoB3 rfl (fun b G hb ho => ev_off rfl (HS4.get 1 rfl))) ?_
      refine steps_cons (st_store 1 _ rfl rfl rfl rfl rfl (fun _ _ _ _ => rfl) rfl rfl rfl (by rfl) infoB3 (fun b G hb ho => ev_off rfl (HS4.get 0 rfl)) (fun b G hb ho => ev_on hLo 0 rfl HS4.1 rfl (hb 0 (by rfl)))) ?_
      exact steps_nil
    clear hLo
    intro G a5 w5 hS hH
    have HS5 : Sl a5 23 [(2, .pointer (some ⟨g1_1, 0, none⟩))] := hS
    have HH5 : Held w w5 [⟨g1_0, .u64, 20, F, 28⟩, ⟨g1_1, .u8, 32, Y, 22⟩, ⟨g2_3, .u64, 5, invE (co F 10), 26⟩, ⟨g3_5, .u8, 32, Y, 22⟩] := hH
    clear hS hH HS4 HH4
    refine then_ ?_
    refine wp_ret ?_
    repeat refine then_ret ?_
    exact b_row rfl HS5.2.1 (HS5.get 0 rfl) (HH5.row 1 rfl) Tryd.underlying22 rfl infoB3 ⟨by rw [bytesP_n hr hY], HH5.1⟩
  · skip
    refine wp_cond_true (HS4.get 2 rfl) ?_
    have hLo : LOk [(0, 18, .val (.pointer (some ⟨g3_5, 31, none⟩))), (1, 19, .val (.int .u8 ((Y) 31))), (2, 20, .val (.int .u8 (Go.bits .or .u8 (Y 31) 128))), (3, 21, .val (.pointer (some ⟨g3_5, 31, none⟩)))] := ⟨show ([0, 1, 2, 3] : List Nat).Nodup by decide, show ([18, 19, 20, 21] : List Nat).Nodup by decide⟩
    refine plain_ (wE := w) (sz := 23) (n := 5) [0, 1, 3, 7, 15] [(2, .val (.pointer (some ⟨g1_1, 0, none⟩))), (4, .val (.pointer (some ⟨g3_5, 0, none⟩)))] [(0, 18, .val (.pointer (some ⟨g3_5, 31, none⟩))), (1, 19, .val (.int .u8 ((Y) 31))), (2, 20, .val (.int .u8 (Go.bits .or .u8 (Y 31) 128))), (3, 21, .val (.pointer (some ⟨g3_5, 31, none⟩)))] [⟨g1_0, none, none, .u64, 20, F, F, 28⟩, ⟨g1_1, none, none, .u8, 32, fun _ => 0, fun _ => 0, 22⟩, ⟨g2_3, none, none, .u64, 5, invE (co F 10), invE (co F 10), 26⟩, ⟨g3_5, none, some 4, .u8, 32, Y, upd (Y) 31 ((Go.bits .or .u8 (Y 31) 128)), 22⟩] rfl (by rfl) HH4 rfl rfl hLo rfl HS4 (slS 0 rfl rfl (slS 1 rfl rfl (trivial))) ?_ ?_
    · show ∀ i ∈ [0, 1, 2, 3, 4], _
      refine steps_cons (st_run 0 _ rfl rfl hLo rfl rfl (fun _ _ _ _ => rfl) (fun b G w hb ho => exec_indexAddr rfl (ev_off rfl (HS4.get 1 rfl)) (rfl) (by kernel_rfl))) ?_
      refine steps_cons (st_read 1 3 _ _ rfl rfl rfl hLo rfl rfl (fun _ _ _ _ => rfl) (by rfl) (by rfl) (fun b G w hb ho hr => exec_cell hr (Nat.le_of_ble_eq_true rfl) Tryd.underlying5 rfl rfl (ev_on hLo 0 rfl HS4.1 rfl (hb 0 (by rfl))))) ?_
      refine steps_cons (st_run 2 _ rfl rfl hLo rfl rfl (fun _ _ _ _ => rfl) (fun b G w hb ho => exec_bin rfl (ev_on hLo 1 rfl HS4.1 rfl (hb 1 (by rfl))) (rfl) (or_run _ _))) ?_
      refine steps_cons (st_run 3 _ rfl rfl hLo rfl rfl (fun _ _ _ _ => rfl) (fun b G w hb ho => exec_indexAddr rfl (ev_off rfl (HS4.get 1 rfl)) (rfl) (by kernel_rfl))) ?_
      refine steps_cons (st_put 3 _ rfl rfl rfl rfl (fun _ _ _ _ => rfl) rfl rfl rfl (by rfl) (fun b G w hb ho hr => exec_put1 hr (Nat.le_of_ble_eq_true rfl) Fd.info5s rfl (ev_on hLo 3 rfl HS4.1 rfl (hb 3 (by rfl))) (ev_on hLo 2 rfl HS4.1 rfl (hb 2 (by rfl))))) ?_
      exact steps_nil
    clear hLo
    intro G a6 w6 hS hH
    have HS6 : Sl a6 23 [(2, .pointer (some ⟨g1_1, 0, none⟩)), (4, .pointer (some ⟨g3_5, 0, none⟩))] := hS
    have HH6 : Held w w6 [⟨g1_0, .u64, 20, F, 28⟩, ⟨g1_1, .u8, 32, fun _ => 0, 22⟩, ⟨g2_3, .u64, 5, invE (co F 10), 26⟩, ⟨g3_5, .u8, 32, upd (Y) 31 ((Go.bits .or .u8 (Y 31) 128)), 22⟩] := hH
    clear hS hH HS4 HH4
    refine then_ ?_
    refine wp_seq ?_
    have hLo : LOk [(0, 22, .val (.agg (FR .u8 32 (upd (Y) 31 ((Go.bits .or .u8 (Y 31) 128))))))] := ⟨show ([0] : List Nat).Nodup by decide, show ([22] : List Nat).Nodup by decide⟩
    refine plain_ (wE := w) (sz := 23) (n := 2) [0, 1] [(2, .val (.pointer (some ⟨g1_1, 0, none⟩)))] [(0, 22, .val (.agg (FR .u8 32 (upd (Y) 31 ((Go.bits .or .u8 (Y 31) 128))))))] [⟨g1_0, none, none, .u64, 20, F, F, 28⟩, ⟨g1_1, none, some 1, .u8, 32, fun _ => 0, upd (Y) 31 ((Go.bits .or .u8 (Y 31) 128)), 22⟩, ⟨g2_3, none, none, .u64, 5, invE (co F 10), invE (co F 10), 26⟩, ⟨g3_5, none, none, .u8, 32, upd (Y) 31 ((Go.bits .or .u8 (Y 31) 128)), upd (Y) 31 ((Go.bits .or .u8 (Y 31) 128)), 22⟩] rfl (by rfl) HH6 rfl rfl hLo rfl HS6 (slS 0 rfl rfl (trivial)) ?_ ?_
    · show ∀ i ∈ [0, 1], _
      refine steps_cons (st_row0 0 3 _ rfl rfl rfl rfl (fun _ _ _ _ => rfl) hLo rfl rfl rfl (by rfl) Tryd.underlying22 infoB3 rfl (fun b G hb ho => ev_off rfl (HS6.get 1 rfl))) ?_
      refine steps_cons (st_store 1 _ rfl rfl rfl rfl rfl (fun _ _ _ _ => rfl) rfl rfl rfl (by rfl) infoB3 (fun b G hb ho => ev_off rfl (HS6.get 0 rfl)) (fun b G hb ho => ev_on hLo 0 rfl HS6.1 rfl (hb 0 (by rfl)))) ?_
      exact steps_nil
    clear hLo
    intro G a7 w7 hS hH
    have HS7 : Sl a7 23 [(2, .pointer (some ⟨g1_1, 0, none⟩))] := hS
    have HH7 : Held w w7 [⟨g1_0, .u64, 20, F, 28⟩, ⟨g1_1, .u8, 32, upd (Y) 31 ((Go.bits .or .u8 (Y 31) 128)), 22⟩, ⟨g2_3, .u64, 5, invE (co F 10), 26⟩, ⟨g3_5, .u8, 32, upd (Y) 31 ((Go.bits .or .u8 (Y 31) 128)), 22⟩] := hH
    clear hS hH HS6 HH6
    refine then_ ?_
    refine wp_ret ?_
    repeat refine then_ret ?_
    exact b_row rfl HS7.2.1 (HS7.get 0 rfl) (HH7.row 1 rfl) Tryd.underlying22 rfl infoB3 ⟨by rw [bytesP_y hr hY], HH7.1⟩
theorem tabis_1 : rtab .any (opsOf Tryd.f16 1) = (true, [([], []), ([0], [0]), ([], []), ([2], [2]), ([1, 3], [1, 3]), ([], []), ([5], [5]), ([], []), ([7], [7]), ([6, 8, 4], [6, 8]), ([4, 9, 9], [4, 9]), ([10, 10], [10]), ([11], [11]), ([12, 11], [11, 12]), ([11], [11]), ([14, 11], [11, 14]), ([13, 15, 11, 11], [11, 13, 15]), ([11], [11]), ([17, 11], [11, 17]), ([11], [11]), ([19, 11], [11, 19]), ([18, 20, 16, 11], [11, 18, 20]), ([16, 21, 21, 11], [11, 16, 21]), ([11, 22], [11, 22]), ([23, 22, 0, 1, 2, 3, 4, 5, 6, 7, 8, 9, 10, 11, 12, 13, 14, 15, 16, 17, 18, 19, 20, 21, 22, 23], [23])]) := by kernel_rfl
theorem bitsis_1 : waitsOk [([], []), ([0], [0]), ([], []), ([2], [2]), ([1, 3], [1, 3]), ([], []), ([5], [5]), ([], []), ([7], [7]), ([6, 8, 4], [6, 8]), ([4, 9, 9], [4, 9]), ([10, 10], [10]), ([11], [11]), ([12, 11], [11, 12]), ([11], [11]), ([14, 11], [11, 14]), ([13, 15, 11, 11], [11, 13, 15]), ([11], [11]), ([17, 11], [11, 17]), ([11], [11]), ([19, 11], [11, 19]), ([18, 20, 16, 11], [11, 18, 20]), ([16, 21, 21, 11], [11, 16, 21]), ([11, 22], [11, 22]), ([23, 22, 0, 1, 2, 3, 4, 5, 6, 7, 8, 9, 10, 11, 12, 13, 14, 15, 16, 17, 18, 19, 20, 21, 22, 23], [23])] [0, 1, 0, 4, 15, 0, 32, 0, 128, 511, 1023, 2047, 4095, 8191, 4095, 20479, 65535, 4095, 135167, 4095, 528383, 2097151, 4194303, 8388607, 16777215] = true := by kernel_rfl
def is1 (F H : Nat → Int) : Bool := decide (V51 (mulE (co F 0) (co H 10)) % PP = V51 (mulE (co H 0) (co F 10)) % PP)
def is2 (F H : Nat → Int) : Bool := decide (V51 (mulE (co F 5) (co H 10)) % PP = V51 (mulE (co H 5) (co F 10)) % PP)
def isP (F H : Nat → Int) : Bool := is1 F H && is2 F H
theorem is_pt (F H : Nat → Int) (w : World) (hF : PL F) (hH : PL H) : Calls Tryd.prog 16 #[.agg (FR .u64 20 F), .agg (FR .u64 20 H)] w fun e w' => e = .returned (.bool (isP F H)) ∧ Below w.heap.size w w' := by
  obtain ⟨r, hr⟩ : ∃ r, is1 F H = r := ⟨_, rfl⟩
  refine enter_ 29 Tryd.func16 rfl rfl (fun a0 hS => ?_)
  have HS0 : Sl a0 29 [(0, .agg (FR .u64 20 F)), (1, .agg (FR .u64 20 H))] := hS
  have HH0 : Held w w [] := Held.first w
  clear hS
  refine wp_seq ?_
  have hLo : LOk [(0, 2, .ptr 0 0), (1, 3, .ptr 1 0), (2, 4, .val (.bool false))] := ⟨show ([0, 1, 2] : List Nat).Nodup by decide, show ([2, 3, 4] : List Nat).Nodup by decide⟩
  refine plain_ (wE := w) (sz := 29) (n := 3) [0, 1, 3] [(2, .ptr 0 0), (3, .ptr 1 0)] [(0, 2, .ptr 0 0), (1, 3, .ptr 1 0), (2, 4, .val (.bool false))] [⟨0, some 0, none, .u64, 20, F, F, 28⟩, ⟨0, some 1, none, .u64, 20, H, H, 28⟩] rfl (by rfl) HH0 rfl rfl hLo rfl HS0 (slL 0 (d := 0) rfl (slL 1 (d := 1) rfl (trivial))) ?_ ?_
  · show ∀ i ∈ [0, 1, 2], _
    refine steps_cons (st_alloc 0 0 .u64 20 28 none _ _ rfl rfl (fun _ _ _ _ => rfl) rfl hLo rfl rfl rfl rfl (by rfl) (fun b G w hb ho => exec_box rfl (ev_off rfl (HS0.get 0 rfl)) (by kernel_rfl))) ?_
    refine steps_cons (st_alloc 1 1 .u64 20 28 none _ _ rfl rfl (fun _ _ _ _ => rfl) rfl hLo rfl rfl rfl rfl (by rfl) (fun b G w hb ho => exec_box rfl (ev_off rfl (HS0.get 1 rfl)) (by kernel_rfl))) ?_
    refine steps_cons (st_run 2 _ rfl rfl hLo rfl rfl (fun _ _ _ _ => rfl) (fun b G w hb ho => exec_move (.inr rfl) (rfl))) ?_
    exact steps_nil
  clear hLo
  intro G a1 w1 hS hH
  have HS1 : Sl a1 29 [(2, .pointer (some ⟨(G 0), 0, none⟩)), (3, .pointer (some ⟨(G 1), 0, none⟩))] := hS
  have HH1 : Held w w1 [⟨(G 0), .u64, 20, F, 28⟩, ⟨(G 1), .u64, 20, H, 28⟩] := hH
  clear hS hH HS0 HH0
  generalize G 0 = g1_0 at HS1 HH1
  generalize G 1 = g1_1 at HS1 HH1
  refine then_ ?_
  cases r
  · skip
    refine wp_seq ?_
    have hLo : LOk [(0, 5, .val (.pointer (some ⟨g1_0, 0, none⟩))), (1, 6, .val (.agg (FR .u64 5 (co (F) 0)))), (2, 7, .val (.pointer (some ⟨g1_1, 10, none⟩))), (3, 8, .val (.agg (FR .u64 5 (co (H) 10)))), (4, 9, .val (.agg (FR .u64 5 (mulE (co (F) 0) (co (H) 10))))), (5, 10, .val (.pointer (some ⟨g1_1, 0, none⟩))), (6, 11, .val (.agg (FR .u64 5 (co (H) 0)))), (7, 12, .val (.pointer (some ⟨g1_0, 10, none⟩))), (8, 13, .val (.agg (FR .u64 5 (co (F) 10)))), (9, 14, .val (.agg (FR .u64 5 (mulE (co (H) 0) (co (F) 10))))), (10, 15, .val (.bool false)), (11, 16, .val (.bool false)), (12, 17, .val (undef)), (13, 18, .val (undef)), (14, 19, .val (undef)), (15, 20, .val (undef)), (16, 21, .val (undef)), (17, 22, .val (undef)), (18, 23, .val (undef)), (19, 24, .val (undef)), (20, 25, .val (undef)), (21, 26, .val (undef)), (22, 27, .val (undef)), (23, 28, .val (.bool false)), (24, 4, .val (.bool false))] := ⟨show ([0, 1, 2, 3, 4, 5, 6, 7, 8, 9, 10, 11, 12, 13, 14, 15, 16, 17, 18, 19, 20, 21, 22, 23, 24] : List Nat).Nodup by decide, show ([5, 6, 7, 8, 9, 10, 11, 12, 13, 14, 15, 16, 17, 18, 19, 20, 21, 22, 23, 24, 25, 26, 27, 28, 4] : List Nat).Nodup by decide⟩
    refine region_ (wE := w) (sz := 29) (n := 25) (B := [0, 1, 0, 4, 15, 0, 32, 0, 128, 511, 1023, 2047, 4095, 8191, 4095, 20479, 65535, 4095, 135167, 4095, 528383, 2097151, 4194303, 8388607, 16777215]) [0, 1, 2, 3, 4, 5, 6, 7, 8, 9, 10, 11, 12, 13, 14, 15, 16, 17, 18, 19, 20, 21, 22, 23, 24] [(4, .val (.bool false))] [(0, 5, .val (.pointer (some ⟨g1_0, 0, none⟩))), (1, 6, .val (.agg (FR .u64 5 (co (F) 0)))), (2, 7, .val (.pointer (some ⟨g1_1, 10, none⟩))), (3, 8, .val (.agg (FR .u64 5 (co (H) 10)))), (4, 9, .val (.agg (FR .u64 5 (mulE (co (F) 0) (co (H) 10))))), (5, 10, .val (.pointer (some ⟨g1_1, 0, none⟩))), (6, 11, .val (.agg (FR .u64 5 (co (H) 0)))), (7, 12, .val (.pointer (some ⟨g1_0, 10, none⟩))), (8, 13, .val (.agg (FR .u64 5 (co (F) 10)))), (9, 14, .val (.agg (FR .u64 5 (mulE (co (H) 0) (co (F) 10))))), (10, 15, .val (.bool false)), (11, 16, .val (.bool false)), (12, 17, .val (undef)), (13, 18, .val (undef)), (14, 19, .val (undef)), (15, 20, .val (undef)), (16, 21, .val (undef)), (17, 22, .val (undef)), (18, 23, .val (undef)), (19, 24, .val (undef)), (20, 25, .val (undef)), (21, 26, .val (undef)), (22, 27, .val (undef)), (23, 28, .val (.bool false)), (24, 4, .val (.bool false))] [⟨g1_0, none, none, .u64, 20, F, F, 28⟩, ⟨g1_1, none, none, .u64, 20, H, H, 28⟩] (by rfl) rfl tabis_1 bitsis_1 (by kernel_rfl) (by kernel_rfl) HH1 rfl rfl hLo rfl HS1 (slL 24 (d := 24) rfl (trivial)) ?_ ?_
    · show ∀ i ∈ [0, 1, 2, 3, 4, 5, 6, 7, 8, 9, 10, 11, 12, 13, 14, 15, 16, 17, 18, 19, 20, 21, 22, 23, 24], _
      refine steps_cons (st_run 0 _ rfl rfl hLo rfl rfl (fun _ _ _ _ => rfl) (fun b G w hb ho => exec_field rfl (ev_off rfl (HS1.get 0 rfl)) (by kernel_rfl))) ?_
      refine steps_cons (st_load0 1 0 _ 0 5 rfl rfl rfl rfl (fun _ _ _ _ => rfl) hLo rfl rfl rfl (by rfl) (Nat.le_of_ble_eq_true rfl) Tryd.underlying26 infoEl rfl (fun b G hb ho => ev_on hLo 0 rfl HS1.1 rfl (hb 0 (by rfl)))) ?_
      refine steps_cons (st_run 2 _ rfl rfl hLo rfl rfl (fun _ _ _ _ => rfl) (fun b G w hb ho => exec_field rfl (ev_off rfl (HS1.get 1 rfl)) (by kernel_rfl))) ?_
      refine steps_cons (st_load0 3 1 _ 10 5 rfl rfl rfl rfl (fun _ _ _ _ => rfl) hLo rfl rfl rfl (by rfl) (Nat.le_of_ble_eq_true rfl) Tryd.underlying26 infoEl rfl (fun b G hb ho => ev_on hLo 2 rfl HS1.1 rfl (hb 2 (by rfl)))) ?_
      refine steps_cons (st_call 4 _ #[.agg (FR .u64 5 (co (F) 0)), .agg (FR .u64 5 (co (H) 10))] rfl rfl rfl (fun _ _ _ _ => rfl) hLo rfl rfl Tryd.func29 rfl rfl (fun b G hb ho => args2 (ev_on hLo 1 rfl HS1.1 rfl (hb 1 (by rfl))) (ev_on hLo 3 rfl HS1.1 rfl (hb 3 (by rfl)))) (fun w hw => elem_mul_calls _ _ w (hF).1 (hH).2.2.1)) ?_
      refine steps_cons (st_run 5 _ rfl rfl hLo rfl rfl (fun _ _ _ _ => rfl) (fun b G w hb ho => exec_field rfl (ev_off rfl (HS1.get 1 rfl)) (by kernel_rfl))) ?_
      refine steps_cons (st_load0 6 1 _ 0 5 rfl rfl rfl rfl (fun _ _ _ _ => rfl) hLo rfl rfl rfl (by rfl) (Nat.le_of_ble_eq_true rfl) Tryd.underlying26 infoEl rfl (fun b G hb ho => ev_on hLo 5 rfl HS1.1 rfl (hb 5 (by rfl)))) ?_
      refine steps_cons (st_run 7 _ rfl rfl hLo rfl rfl (fun _ _ _ _ => rfl) (fun b G w hb ho => exec_field rfl (ev_off rfl (HS1.get 0 rfl)) (by kernel_rfl))) ?_
      refine steps_cons (st_load0 8 0 _ 10 5 rfl rfl rfl rfl (fun _ _ _ _ => rfl) hLo rfl rfl rfl (by rfl) (Nat.le_of_ble_eq_true rfl) Tryd.underlying26 infoEl rfl (fun b G hb ho => ev_on hLo 7 rfl HS1.1 rfl (hb 7 (by rfl)))) ?_
      refine steps_cons (st_call 9 _ #[.agg (FR .u64 5 (co (H) 0)), .agg (FR .u64 5 (co (F) 10))] rfl rfl rfl (fun _ _ _ _ => rfl) hLo rfl rfl Tryd.func29 rfl rfl (fun b G hb ho => args2 (ev_on hLo 6 rfl HS1.1 rfl (hb 6 (by rfl))) (ev_on hLo 8 rfl HS1.1 rfl (hb 8 (by rfl)))) (fun w hw => elem_mul_calls _ _ w (hH).1 (hF).2.2.1)) ?_
      refine steps_cons (st_call 10 _ #[.agg (FR .u64 5 (mulE (co (F) 0) (co (H) 10))), .agg (FR .u64 5 (mulE (co (H) 0) (co (F) 10)))] rfl rfl rfl (fun _ _ _ _ => rfl) hLo rfl rfl Tryd.func36 rfl rfl (fun b G hb ho => args2 (ev_on hLo 4 rfl HS1.1 rfl (hb 4 (by rfl))) (ev_on hLo 9 rfl HS1.1 rfl (hb 9 (by rfl)))) (fun w hw => is_r (lmul hF.1 hH.2.2.1) (lmul hH.1 hF.2.2.1) hr w)) ?_
      refine steps_cons (st_run 11 _ rfl rfl hLo rfl rfl (fun _ _ _ _ => rfl) (fun b G w hb ho => exec_move (.inl rfl) (ev_on hLo 10 rfl HS1.1 rfl (hb 10 (by rfl))))) ?_
      refine steps_cons (st_skip 12 rfl rfl hLo rfl rfl (fun b G hb ho => wanted_is rfl rfl rfl HS1.1 rfl (ev_on hLo 11 rfl HS1.1 rfl (hb 11 (by rfl))) rfl)) ?_
      refine steps_cons (st_skip 13 rfl rfl hLo rfl rfl (fun b G hb ho => wanted_is rfl rfl rfl HS1.1 rfl (ev_on hLo 11 rfl HS1.1 rfl (hb 11 (by rfl))) rfl)) ?_
      refine steps_cons (st_skip 14 rfl rfl hLo rfl rfl (fun b G hb ho => wanted_is rfl rfl rfl HS1.1 rfl (ev_on hLo 11 rfl HS1.1 rfl (hb 11 (by rfl))) rfl)) ?_
      refine steps_cons (st_skip 15 rfl rfl hLo rfl rfl (fun b G hb ho => wanted_is rfl rfl rfl HS1.1 rfl (ev_on hLo 11 rfl HS1.1 rfl (hb 11 (by rfl))) rfl)) ?_
      refine steps_cons (st_skip 16 rfl rfl hLo rfl rfl (fun b G hb ho => wanted_is rfl rfl rfl HS1.1 rfl (ev_on hLo 11 rfl HS1.1 rfl (hb 11 (by rfl))) rfl)) ?_
      refine steps_cons (st_skip 17 rfl rfl hLo rfl rfl (fun b G hb ho => wanted_is rfl rfl rfl HS1.1 rfl (ev_on hLo 11 rfl HS1.1 rfl (hb 11 (by rfl))) rfl)) ?_
      refine steps_cons (st_skip 18 rfl rfl hLo rfl rfl (fun b G hb ho => wanted_is rfl rfl rfl HS1.1 rfl (ev_on hLo 11 rfl HS1.1 rfl (hb 11 (by rfl))) rfl)) ?_
      refine steps_cons (st_skip 19 rfl rfl hLo rfl rfl (fun b G hb ho => wanted_is rfl rfl rfl HS1.1 rfl (ev_on hLo 11 rfl HS1.1 rfl (hb 11 (by rfl))) rfl)) ?_
      refine steps_cons (st_skip 20 rfl rfl hLo rfl rfl (fun b G hb ho => wanted_is rfl rfl rfl HS1.1 rfl (ev_on hLo 11 rfl HS1.1 rfl (hb 11 (by rfl))) rfl)) ?_
      refine steps_cons (st_skip 21 rfl rfl hLo rfl rfl (fun b G hb ho => wanted_is rfl rfl rfl HS1.1 rfl (ev_on hLo 11 rfl HS1.1 rfl (hb 11 (by rfl))) rfl)) ?_
      refine steps_cons (st_skip 22 rfl rfl hLo rfl rfl (fun b G hb ho => wanted_is rfl rfl rfl HS1.1 rfl (ev_on hLo 11 rfl HS1.1 rfl (hb 11 (by rfl))) rfl)) ?_
      refine steps_cons (st_run 23 _ rfl rfl hLo rfl rfl (fun _ _ _ _ => rfl) (fun b G w hb ho => exec_pick rfl (ev_on hLo 11 rfl HS1.1 rfl (hb 11 (by rfl))) (rfl))) ?_
      refine steps_cons (st_run 24 _ rfl rfl hLo rfl rfl (fun _ _ _ _ => rfl) (fun b G w hb ho => exec_move (.inr rfl) (ev_on hLo 23 rfl HS1.1 rfl (hb 23 (by rfl))))) ?_
      exact steps_nil
    clear hLo
    intro G a2 w2 hS hH
    have HS2 : Sl a2 29 [(4, .bool false)] := hS
    have HH2 : Held w w2 [⟨g1_0, .u64, 20, F, 28⟩, ⟨g1_1, .u64, 20, H, 28⟩] := hH
    clear hS hH HS1 HH1
    refine then_ ?_
    refine wp_ret ?_
    repeat refine then_ret ?_
    exact b_tmp rfl HS2.2.1 (HS2.get 0 rfl) ⟨by rw [isP, hr]; rfl, HH2.1⟩
  · skip
    refine wp_seq ?_
    have hLo : LOk [(0, 5, .val (.pointer (some ⟨g1_0, 0, none⟩))), (1, 6, .val (.agg (FR .u64 5 (co (F) 0)))), (2, 7, .val (.pointer (some ⟨g1_1, 10, none⟩))), (3, 8, .val (.agg (FR .u64 5 (co (H) 10)))), (4, 9, .val (.agg (FR .u64 5 (mulE (co (F) 0) (co (H) 10))))), (5, 10, .val (.pointer (some ⟨g1_1, 0, none⟩))), (6, 11, .val (.agg (FR .u64 5 (co (H) 0)))), (7, 12, .val (.pointer (some ⟨g1_0, 10, none⟩))), (8, 13, .val (.agg (FR .u64 5 (co (F) 10)))), (9, 14, .val (.agg (FR .u64 5 (mulE (co (H) 0) (co (F) 10))))), (10, 15, .val (.bool true)), (11, 16, .val (.bool true)), (12, 17, .val (.pointer (some ⟨g1_0, 5, none⟩))), (13, 18, .val (.agg (FR .u64 5 (co (F) 5)))), (14, 19, .val (.pointer (some ⟨g1_1, 10, none⟩))), (15, 20, .val (.agg (FR .u64 5 (co (H) 10)))), (16, 21, .val (.agg (FR .u64 5 (mulE (co (F) 5) (co (H) 10))))), (17, 22, .val (.pointer (some ⟨g1_1, 5, none⟩))), (18, 23, .val (.agg (FR .u64 5 (co (H) 5)))), (19, 24, .val (.pointer (some ⟨g1_0, 10, none⟩))), (20, 25, .val (.agg (FR .u64 5 (co (F) 10)))), (21, 26, .val (.agg (FR .u64 5 (mulE (co (H) 5) (co (F) 10))))), (22, 27, .val (.bool (is2 F H))), (23, 28, .val (.bool (is2 F H))), (24, 4, .val (.bool (is2 F H)))] := ⟨show ([0, 1, 2, 3, 4, 5, 6, 7, 8, 9, 10, 11, 12, 13, 14, 15, 16, 17, 18, 19, 20, 21, 22, 23, 24] : List Nat).Nodup by decide, show ([5, 6, 7, 8, 9, 10, 11, 12, 13, 14, 15, 16, 17, 18, 19, 20, 21, 22, 23, 24, 25, 26, 27, 28, 4] : List Nat).Nodup by decide⟩
    refine region_ (wE := w) (sz := 29) (n := 25) (B := [0, 1, 0, 4, 15, 0, 32, 0, 128, 511, 1023, 2047, 4095, 8191, 4095, 20479, 65535, 4095, 135167, 4095, 528383, 2097151, 4194303, 8388607, 16777215]) [0, 1, 2, 3, 4, 5, 6, 7, 8, 9, 10, 11, 12, 13, 14, 15, 16, 17, 18, 19, 20, 21, 22, 23, 24] [(4, .val (.bool (is2 F H)))] [(0, 5, .val (.pointer (some ⟨g1_0, 0, none⟩))), (1, 6, .val (.agg (FR .u64 5 (co (F) 0)))), (2, 7, .val (.pointer (some ⟨g1_1, 10, none⟩))), (3, 8, .val (.agg (FR .u64 5 (co (H) 10)))), (4, 9, .val (.agg (FR .u64 5 (mulE (co (F) 0) (co (H) 10))))), (5, 10, .val (.pointer (some ⟨g1_1, 0, none⟩))), (6, 11, .val (.agg (FR .u64 5 (co (H) 0)))), (7, 12, .val (.pointer (some ⟨g1_0, 10, none⟩))), (8, 13, .val (.agg (FR .u64 5 (co (F) 10)))), (9, 14, .val (.agg (FR .u64 5 (mulE (co (H) 0) (co (F) 10))))), (10, 15, .val (.bool true)), (11, 16, .val (.bool true)), (12, 17, .val (.pointer (some ⟨g1_0, 5, none⟩))), (13, 18, .val (.agg (FR .u64 5 (co (F) 5)))), (14, 19, .val (.pointer (some ⟨g1_1, 10, none⟩))), (15, 20, .val (.agg (FR .u64 5 (co (H) 10)))), (16, 21, .val (.agg (FR .u64 5 (mulE (co (F) 5) (co (H) 10))))), (17, 22, .val (.pointer (some ⟨g1_1, 5, none⟩))), (18, 23, .val (.agg (FR .u64 5 (co (H) 5)))), (19, 24, .val (.pointer (some ⟨g1_0, 10, none⟩))), (20, 25, .val (.agg (FR .u64 5 (co (F) 10)))), (21, 26, .val (.agg (FR .u64 5 (mulE (co (H) 5) (co (F) 10))))), (22, 27, .val (.bool (is2 F H))), (23, 28, .val (.bool (is2 F H))), (24, 4, .val (.bool (is2 F H)))] [⟨g1_0, none, none, .u64, 20, F, F, 28⟩, ⟨g1_1, none, none, .u64, 20, H, H, 28⟩] (by rfl) rfl tabis_1 bitsis_1 (by kernel_rfl) (by kernel_rfl) HH1 rfl rfl hLo rfl HS1 (slL 24 (d := 24) rfl (trivial)) ?_ ?_
    · show ∀ i ∈ [0, 1, 2, 3, 4, 5, 6, 7, 8, 9, 10, 11, 12, 13, 14, 15, 16, 17, 18, 19, 20, 21, 22, 23, 24], _
      refine steps_cons (st_run 0 _ rfl rfl hLo rfl rfl (fun _ _ _ _ => rfl) (fun b G w hb ho => exec_field rfl (ev_off rfl (HS1.get 0 rfl)) (by kernel_rfl))) ?_
      refine steps_cons (st_load0 1 0 _ 0 5 rfl rfl rfl rfl (fun _ _ _ _ => rfl) hLo rfl rfl rfl (by rfl) (Nat.le_of_ble_eq_true rfl) Tryd.underlying26 infoEl rfl (fun b G hb ho => ev_on hLo 0 rfl HS1.1 rfl (hb 0 (by rfl)))) ?_
      refine steps_cons (st_run 2 _ rfl rfl hLo rfl rfl (fun _ _ _ _ => rfl) (fun b G w hb ho => exec_field rfl (ev_off rfl (HS1.get 1 rfl)) (by kernel_rfl))) ?_
      refine steps_cons (st_load0 3 1 _ 10 5 rfl rfl rfl rfl (fun _ _ _ _ => rfl) hLo rfl rfl rfl (by rfl) (Nat.le_of_ble_eq_true rfl) Tryd.underlying26 infoEl rfl (fun b G hb ho => ev_on hLo 2 rfl HS1.1 rfl (hb 2 (by rfl)))) ?_
      refine steps_cons (st_call 4 _ #[.agg (FR .u64 5 (co (F) 0)), .agg (FR .u64 5 (co (H) 10))] rfl rfl rfl (fun _ _ _ _ => rfl) hLo rfl rfl Tryd.func29 rfl rfl (fun b G hb ho => args2 (ev_on hLo 1 rfl HS1.1 rfl (hb 1 (by rfl))) (ev_on hLo 3 rfl HS1.1 rfl (hb 3 (by rfl)))) (fun w hw => elem_mul_calls _ _ w (hF).1 (hH).2.2.1)) ?_
      refine steps_cons (st_run 5 _ rfl rfl hLo rfl rfl (fun _ _ _ _ => rfl) (fun b G w hb ho => exec_field rfl (ev_off rfl (HS1.get 1 rfl)) (by kernel_rfl))) ?_
      refine steps_cons (st_load0 6 1 _ 0 5 rfl rfl rfl rfl (fun _ _ _ _ => rfl) hLo rfl rfl rfl (by rfl) (Nat.le_of_ble_eq_true rfl) Tryd.underlying26 infoEl rfl (fun b G hb ho => ev_on hLo 5 rfl HS1.1 rfl (hb 5 (by rfl)))) ?_
      refine steps_cons (st_run 7 _ rfl rfl hLo rfl rfl (fun _ _ _ _ => rfl) (fun b G w hb ho => exec_field rfl (ev_off rfl (HS1.get 0 rfl)) (by kernel_rfl))) ?_
      refine steps_cons (st_load0 8 0 _ 10 5 rfl rfl rfl rfl (fun _ _ _ _ => rfl) hLo rfl rfl rfl (by rfl) (Nat.le_of_ble_eq_true rfl) Tryd.underlying26 infoEl rfl (fun b G hb ho => ev_on hLo 7 rfl HS1.1 rfl (hb 7 (by rfl)))) ?_
      refine steps_cons (st_call 9 _ #[.agg (FR .u64 5 (co (H) 0)), .agg (FR .u64 5 (co (F) 10))] rfl rfl rfl (fun _ _ _ _ => rfl) hLo rfl rfl Tryd.func29 rfl rfl (fun b G hb ho => args2 (ev_on hLo 6 rfl HS1.1 rfl (hb 6 (by rfl))) (ev_on hLo 8 rfl HS1.1 rfl (hb 8 (by rfl)))) (fun w hw => elem_mul_calls _ _ w (hH).1 (hF).2.2.1)) ?_
      refine steps_cons (st_call 10 _ #[.agg (FR .u64 5 (mulE (co (F) 0) (co (H) 10))), .agg (FR .u64 5 (mulE (co (H) 0) (co (F) 10)))] rfl rfl rfl (fun _ _ _ _ => rfl) hLo rfl rfl Tryd.func36 rfl rfl (fun b G hb ho => args2 (ev_on hLo 4 rfl HS1.1 rfl (hb 4 (by rfl))) (ev_on hLo 9 rfl HS1.1 rfl (hb 9 (by rfl)))) (fun w hw => is_r (lmul hF.1 hH.2.2.1) (lmul hH.1 hF.2.2.1) hr w)) ?_
      refine steps_cons (st_run 11 _ rfl rfl hLo rfl rfl (fun _ _ _ _ => rfl) (fun b G w hb ho => exec_move (.inl rfl) (ev_on hLo 10 rfl HS1.1 rfl (hb 10 (by rfl))))) ?_
      refine steps_cons (st_run 12 _ rfl rfl hLo rfl rfl (fun b G hb ho => wanted_is rfl rfl rfl HS1.1 rfl (ev_on hLo 11 rfl HS1.1 rfl (hb 11 (by rfl))) rfl) (fun b G w hb ho => exec_field rfl (ev_off rfl (HS1.get 0 rfl)) (by kernel_rfl))) ?_
      refine steps_cons (st_load0 13 0 _ 5 5 rfl rfl rfl rfl (fun b G hb ho => wanted_is rfl rfl rfl HS1.1 rfl (ev_on hLo 11 rfl HS1.1 rfl (hb 11 (by rfl))) rfl) hLo rfl rfl rfl (by rfl) (Nat.le_of_ble_eq_true rfl) Tryd.underlying26 infoEl rfl (fun b G hb ho => ev_on hLo 12 rfl HS1.1 rfl (hb 12 (by rfl)))) ?_
      refine steps_cons (st_run 14 _ rfl rfl hLo rfl rfl (fun b G hb ho => wanted_is rfl rfl rfl HS1.1 rfl (ev_on hLo 11 rfl HS1.1 rfl (hb 11 (by rfl))) rfl) (fun b G w hb ho => exec_field rfl (ev_off rfl (HS1.get 1 rfl)) (by kernel_rfl))) ?_
      refine steps_cons (st_load0 15 1 _ 10 5 rfl rfl rfl rfl (fun b G hb ho => wanted_is rfl rfl rfl HS1.1 rfl (ev_on hLo 11 rfl HS1.1 rfl (hb 11 (by rfl))) rfl) hLo rfl rfl rfl (by rfl) (Nat.le_of_ble_eq_true rfl) Tryd.underlying26 infoEl rfl (fun b G hb ho => ev_on hLo 14 rfl HS1.1 rfl (hb 14 (by rfl)))) ?_
      refine steps_cons (st_call 16 _ #[.agg (FR .u64 5 (co (F) 5)), .agg (FR .u64 5 (co (H) 10))] rfl rfl rfl (fun b G hb ho => wanted_is rfl rfl rfl HS1.1 rfl (ev_on hLo 11 rfl HS1.1 rfl (hb 11 (by rfl))) rfl) hLo rfl rfl Tryd.func29 rfl rfl (fun b G hb ho => args2 (ev_on hLo 13 rfl HS1.1 rfl (hb 13 (by rfl))) (ev_on hLo 15 rfl HS1.1 rfl (hb 15 (by rfl)))) (fun w hw => elem_mul_calls _ _ w (hF).2.1 (hH).2.2.1)) ?_
      refine steps_cons (st_run 17 _ rfl rfl hLo rfl rfl (fun b G hb ho => wanted_is rfl rfl rfl HS1.1 rfl (ev_on hLo 11 rfl HS1.1 rfl (hb 11 (by rfl))) rfl) (fun b G w hb ho => exec_field rfl (ev_off rfl (HS1.get 1 rfl)) (by kernel_rfl))) ?_
      refine steps_cons (st_load0 18 1 _ 5 5 rfl rfl rfl rfl (fun b G hb ho => wanted_is rfl rfl rfl HS1.1 rfl (ev_on hLo 11 rfl HS1.1 rfl (hb 11 (by rfl))) rfl) hLo rfl rfl rfl (by rfl) (Nat.le_of_ble_eq_true rfl) Tryd.underlying26 infoEl rfl (fun b G hb ho => ev_on hLo 17 rfl HS1.1 rfl (hb 17 (by rfl)))) ?_
      refine steps_cons (st_run 19 _ rfl rfl hLo rfl rfl (fun b G hb ho => wanted_is rfl rfl rfl HS1.1 rfl (ev_on hLo 11 rfl HS1.1 rfl (hb 11 (by rfl))) rfl) (fun b G w hb ho => exec_field rfl (ev_off rfl (HS1.get 0 rfl)) (by kernel_rfl))) ?_
      refine steps_cons (st_load0 20 0 _ 10 5 rfl rfl rfl rfl (fun b G hb ho => wanted_is rfl rfl rfl HS1.1 rfl (ev_on hLo 11 rfl HS1.1 rfl (hb 11 (by rfl))) rfl) hLo rfl rfl rfl (by rfl) (Nat.le_of_ble_eq_true rfl) Tryd.underlying26 infoEl rfl (fun b G hb ho => ev_on hLo 19 rfl HS1.1 rfl (hb 19 (by rfl)))) ?_
      refine steps_cons (st_call 21 _ #[.agg (FR .u64 5 (co (H) 5)), .agg (FR .u64 5 (co (F) 10))] rfl rfl rfl (fun b G hb ho => wanted_is rfl rfl rfl HS1.1 rfl (ev_on hLo 11 rfl HS1.1 rfl (hb 11 (by rfl))) rfl) hLo rfl rfl Tryd.func29 rfl rfl (fun b G hb ho => args2 (ev_on hLo 18 rfl HS1.1 rfl (hb 18 (by rfl))) (ev_on hLo 20 rfl HS1.1 rfl (hb 20 (by rfl)))) (fun w hw => elem_mul_calls _ _ w (hH).2.1 (hF).2.2.1)) ?_
      refine steps_cons (st_call 22 _ #[.agg (FR .u64 5 (mulE (co (F) 5) (co (H) 10))), .agg (FR .u64 5 (mulE (co (H) 5) (co (F) 10)))] rfl rfl rfl (fun b G hb ho => wanted_is rfl rfl rfl HS1.1 rfl (ev_on hLo 11 rfl HS1.1 rfl (hb 11 (by rfl))) rfl) hLo rfl rfl Tryd.func36 rfl rfl (fun b G hb ho => args2 (ev_on hLo 16 rfl HS1.1 rfl (hb 16 (by rfl))) (ev_on hLo 21 rfl HS1.1 rfl (hb 21 (by rfl)))) (fun w hw => is_r (lmul hF.2.1 hH.2.2.1) (lmul hH.2.1 hF.2.2.1) (rfl : is2 F H = is2 F H) w)) ?_
      refine steps_cons (st_run 23 _ rfl rfl hLo rfl rfl (fun _ _ _ _ => rfl) (fun b G w hb ho => exec_pick rfl (ev_on hLo 11 rfl HS1.1 rfl (hb 11 (by rfl))) (ev_on hLo 22 rfl HS1.1 rfl (hb 22 (by rfl))))) ?_
      refine steps_cons (st_run 24 _ rfl rfl hLo rfl rfl (fun _ _ _ _ => rfl) (fun b G w hb ho => exec_move (.inr rfl) (ev_on hLo 23 rfl HS1.1 rfl (hb 23 (by rfl))))) ?_
      exact steps_nil
    clear hLo
    intro G a3 w3 hS hH
    have HS3 : Sl a3 29 [(4, .bool (is2 F H))] := hS
    have HH3 : Held w w3 [⟨g1_0, .u64, 20, F, 28⟩, ⟨g1_1, .u64, 20, H, 28⟩] := hH
    clear hS hH HS1 HH1
    refine then_ ?_
    refine wp_ret ?_
    repeat refine then_ret ?_
    exact b_tmp rfl HS3.2.1 (HS3.get 0 rfl) ⟨by rw [isP, hr]; rfl, HH3.1⟩
end Go.Proofs.YtaaipbhfikefaaaDoor.P
end

section
namespace Go.Proofs.YtaaipbhfikefaaaDoor.P
set_option linter.unusedVariables false
set_option linter.unusedSimpArgs false
open Go.RowKit Go.ChangeShapes Go.WideShapes Go.Proofs.YtaaipbhfikefaaaDoorW.PrintWords Go.Proofs.YtaaipbhfikefaaaDoorW.PrintLast Go.Proofs.YtaaipbhfikefaaaDoorW.PrintMore
open Go.Proofs.YtaaipbhfikefaaaDoor.P.Fd
theorem shr7_run (x : Int) (w : World) (p q : Operand) : (do eqGuard .shr 5 p q (.int .u8 x) (.int .u64 7); binOp .shr 5 (.int .u8 x) (.int .u64 7) : Sem Value).run Tryd.prog w = .ok (.int .u8 (x / 128)) w := by go_simp
theorem eq_run {k : IntKind} {t : TypeId} {x c : Int} {r : Bool} (h : (x == c) = r) (w : World) (p q : Operand) : (do eqGuard .eql t p q (.int k x) (.int k c); binOp .eql t (.int k x) (.int k c) : Sem Value).run Tryd.prog w = .ok (.bool r) w := by subst h; go_simp
theorem and127_run (x : Int) (w : World) (p q : Operand) : (do eqGuard .and 5 p q (.int .u8 x) (.int .u8 127); binOp .and 5 (.int .u8 x) (.int .u8 127) : Sem Value).run Tryd.prog w = .ok (.int .u8 (Go.bits .and .u8 x 127)) w := by go_simp
theorem equalB {f g : Nat → Int} (w : World) : (Op.equal 22 (.agg (FR .u8 32 f)) (.agg (FR .u8 32 g))).run Tryd.prog w = .ok (sameRow 32 f g) w := run_equal_FR Tryd.underlying22 Tryd.underlying5 (by kernel_rfl) f g w
theorem neqB_run {f g : Nat → Int} {r : Bool} (h : sameRow 32 f g = r) (w : World) (p q : Operand) : (do eqGuard .neq 22 p q (.agg (FR .u8 32 f)) (.agg (FR .u8 32 g)); binOp .neq 22 (.agg (FR .u8 32 f)) (.agg (FR .u8 32 g)) : Sem Value).run Tryd.prog w = .ok (.bool (!r)) w := by
  subst h
  unfold binOp eqGuard
  have he := equalB (f := f) (g := g)
  go_simp
theorem eqB_run {f g : Nat → Int} {r : Bool} (h : sameRow 32 f g = r) (w : World) (p q : Operand) : (do eqGuard .eql 22 p q (.agg (FR .u8 32 f)) (.agg (FR .u8 32 g)); binOp .eql 22 (.agg (FR .u8 32 f)) (.agg (FR .u8 32 g)) : Sem Value).run Tryd.prog w = .ok (.bool r) w := by
  subst h
  unfold binOp eqGuard
  have he := equalB (f := f) (g := g)
  go_simp
theorem root_r {f X : Nat → Int} {r : Bool} (hf : Lm f) (h : rOk iZ (V51 f) = r) (hX : rtE f (V51 f) = X) (w : World) : Calls Tryd.prog 35 #[.agg (FR .u64 5 f)] w fun e w' => e = .returned (.tuple #[.agg (FR .u64 5 X), .bool r]) ∧ Below w.heap.size w w' := by
  rw [← h, ← hX]; exact rootE_calls f (V51 f) w ⟨hf, rfl⟩
/-- The bytes less the highest bit. -/
def lowB1 (b : Nat → Int) : Nat → Int := upd b 31 (Go.bits .and .u8 (b 31) 127)
theorem and127 (x : Int) (h : 0 ≤ x ∧ x < 256) : Go.bits .and .u8 x 127 = x % 128 := by
  have hx : ∀ n : Fin 256, Go.bits .and .u8 (n.val : Int) 127 = (n.val : Int) % 128 := by decide +kernel
  have := hx ⟨x.toNat, by omega⟩
  simp only [Int.toNat_of_nonneg h.1] at this
  exact this
theorem lowB1_By {b : Nat → Int} (hb : By b) : By (lowB1 b) := fun j hj => by
  unfold lowB1 upd
  split
  · rw [and127 _ (hb 31 (by omega))]; omega
  · exact hb j hj
def dy (b : Nat → Int) : Nat → Int := carr (ofL (lowB1 b))
theorem dy_Lm {b : Nat → Int} (hb : By b) : Lm (dy b) := lof (lowB1_By hb)
def dsq (b : Nat → Int) : Nat → Int := mulE (dy b) (dy b)
theorem dsq_Lm {b : Nat → Int} (hb : By b) : Lm (dsq b) := lmul (dy_Lm hb) (dy_Lm hb)
def dq (b : Nat → Int) : Nat → Int := mulE (subE (dsq b) (smL 1)) (invE (addE (mulE (dsq b) (carr (ofL dB))) (smL 1)))
theorem dq_Lm {b : Nat → Int} (hb : By b) : Lm (dq b) := lmul (lsub (dsq_Lm hb) (smL_Lm 1 (by omega))) (linv (ladd (lmul (dsq_Lm hb) (lof dB_By)) (smL_Lm 1 (by omega))))
def dx0 (b : Nat → Int) : Nat → Int := rtE (dq b) (V51 (dq b))
theorem dx0_Lm {b : Nat → Int} (hb : By b) : Lm (dx0 b) := (rtE_Fe (n := V51 (dq b)) ⟨dq_Lm hb, rfl⟩).1
def dsame (b : Nat → Int) : Bool := sameRow 32 (dig 256 (V51 (dy b) % PP)) (lowB1 b)
def drt (b : Nat → Int) : Bool := rOk iZ (V51 (dq b))
def dodd (b : Nat → Int) : Bool := b 31 / 128 == 1
def dz (b : Nat → Int) : Bool := decide (V51 (dx0 b) % PP = V51 (fun _ => 0) % PP)
def decOk (b : Nat → Int) : Bool := dsame b && (drt b && !(dodd b && dz b))
def dx (b : Nat → Int) : Nat → Int := if dodd b then negE (dx0 b) else dx0 b
theorem dx_Lm {b : Nat → Int} (hb : By b) : Lm (dx b) := by unfold dx; split; exact lneg (dx0_Lm hb); exact dx0_Lm hb
theorem dx_y {b X : Nat → Int} (h : dodd b = true) (hX : dx0 b = X) : negE X = dx b := by rw [← hX]; exact (if_pos h).symm
theorem dx_n {b X : Nat → Int} (h : dodd b = false) (hX : dx0 b = X) : X = dx b := by rw [← hX]; exact (if_neg (by rw [h]; decide)).symm
def decP (b : Nat → Int) : Nat → Int := if decOk b then pt4 (dx b) (dy b) (smL 1) (mulE (dx b) (dy b)) else fun _ => 0
theorem decP_n {b : Nat → Int} (h : decOk b = false) : decP b = fun _ => 0 := if_neg (by rw [h]; decide)
theorem decP_y {b : Nat → Int} (h : decOk b = true) : decP b = pt4 (dx b) (dy b) (smL 1) (mulE (dx b) (dy b)) := if_pos h
theorem tabdec_4 : rtab .any (opsOf Tryd.f12 4) = (true, [([], []), ([0], [0]), ([], []), ([1, 2], [1, 2])]) := by kernel_rfl
theorem bitsdec_4 : waitsOk [([], []), ([0], [0]), ([], []), ([1, 2], [1, 2])] [0, 1, 0, 7] = true := by kernel_rfl
theorem tabdec_6 : rtab .any (opsOf Tryd.f12 6) = (true, [([], []), ([], []), ([], []), ([1, 2, 0], [1, 2]), ([], []), ([], []), ([4, 0, 3, 0, 4, 5], [0, 4]), ([5, 3, 6, 0, 1, 2, 3, 4, 5, 6], [3, 5])]) := by kernel_rfl
theorem bitsdec_6 : waitsOk [([], []), ([], []), ([], []), ([1, 2, 0], [1, 2]), ([], []), ([], []), ([4, 0, 3, 0, 4, 5], [0, 4]), ([5, 3, 6, 0, 1, 2, 3, 4, 5, 6], [3, 5])] [0, 0, 0, 7, 0, 0, 63, 127] = true := by kernel_rfl
theorem tabdec_7 : rtab .any (opsOf Tryd.f12 7) = (true, [([], []), ([], []), ([0, 1], [0, 1]), ([], []), ([], []), ([4, 2], [4]), ([3, 5, 5], [3, 5]), ([], []), ([6, 7, 6], [6, 7]), ([8, 8], [8]), ([2, 9, 9], [2, 9]), ([10, 10], [10]), ([11], [11]), ([12], [12]), ([12], [12]), ([], []), ([15, 13, 11, 0, 1, 2, 3, 4, 5, 6, 7, 8, 9, 10, 11, 12, 13, 15], [13, 15]), ([14, 16, 0, 1, 2, 3, 4, 5, 6, 7, 8, 9, 10, 11, 12, 13, 14, 15, 16], [14])]) := by kernel_rfl
theorem bitsdec_7 : waitsOk [([], []), ([], []), ([0, 1], [0, 1]), ([], []), ([], []), ([4, 2], [4]), ([3, 5, 5], [3, 5]), ([], []), ([6, 7, 6], [6, 7]), ([8, 8], [8]), ([2, 9, 9], [2, 9]), ([10, 10], [10]), ([11], [11]), ([12], [12]), ([12], [12]), ([], []), ([15, 13, 11, 0, 1, 2, 3, 4, 5, 6, 7, 8, 9, 10, 11, 12, 13, 15], [13, 15]), ([14, 16, 0, 1, 2, 3, 4, 5, 6, 7, 8, 9, 10, 11, 12, 13, 14, 15, 16], [14])] [0, 0, 3, 0, 0, 23, 63, 0, 255, 511, 1023, 2047, 4095, 8191, 8191, 0, 49151, 131071] = true := by kernel_rfl
theorem tabdec_12 : rtab .any (opsOf Tryd.f12 12) = (true, [([], []), ([], []), ([], []), ([], []), ([], []), ([3, 4], [3, 4]), ([0, 1, 2, 5], [0, 1, 2, 5]), ([6, 5, 0, 1, 2, 3, 4, 5, 6], [6]), ([7, 0, 1, 2, 3, 4, 5, 6, 7], [])]) := by kernel_rfl
theorem bitsdec_12 : waitsOk [([], []), ([], []), ([], []), ([], []), ([], []), ([3, 4], [3, 4]), ([0, 1, 2, 5], [0, 1, 2, 5]), ([6, 5, 0, 1, 2, 3, 4, 5, 6], [6]), ([7, 0, 1, 2, 3, 4, 5, 6, 7], [])] [0, 0, 0, 0, 0, 24, 63, 127, 255] = true := by kernel_rfl
theorem decode_pt (b : Nat → Int) (w : World) (hT : TabD w) (hb : By b) : Calls Tryd.prog 12 #[.agg (FR .u8 32 b)] w fun e w' => e = .returned (.tuple #[.agg (FR .u64 20 (decP b)), .bool (decOk b)]) ∧ Below w.heap.size w w' := by
  obtain ⟨r1, hr1⟩ : ∃ r, dsame b = r := ⟨_, rfl⟩
  obtain ⟨r2, hr2⟩ : ∃ r, drt b = r := ⟨_, rfl⟩
  obtain ⟨r3, hr3⟩ : ∃ r, dodd b = r := ⟨_, rfl⟩
  obtain ⟨r4, hr4⟩ : ∃ r, dz b = r := ⟨_, rfl⟩
  obtain ⟨X, hX⟩ : ∃ X, dx0 b = X := ⟨_, rfl⟩
  have hXl : Lm X := by rw [← hX]; exact dx0_Lm hb
  have hr5 : decide (V51 X % PP = V51 (fun _ => 0) % PP) = r4 := by rw [← hX]; exact hr4
  refine enter_ 65 Tryd.func12 rfl rfl (fun a0 hS => ?_)
  have HS0 : Sl a0 65 [(0, .agg (FR .u8 32 b))] := hS
  have HH0 : Held w w [] := Held.first w
  clear hS
  refine wp_seq ?_
  have hLo : LOk [(0, 1, .ptr 0 0), (1, 2, .ptr 1 0), (2, 3, .val (.bool false))] := ⟨show ([0, 1, 2] : List Nat).Nodup by decide, show ([1, 2, 3] : List Nat).Nodup by decide⟩
  refine plain_ (wE := w) (sz := 65) (n := 3) [0, 1, 3] [(1, .ptr 0 0), (2, .ptr 1 0), (3, .val (.bool false))] [(0, 1, .ptr 0 0), (1, 2, .ptr 1 0), (2, 3, .val (.bool false))] [⟨0, some 0, none, .u8, 32, b, b, 22⟩, ⟨0, some 1, none, .u64, 20, fun _ => 0, fun _ => 0, 28⟩] rfl (by rfl) HH0 rfl rfl hLo rfl HS0 (slL 0 (d := 0) rfl (slL 1 (d := 1) rfl (slL 2 (d := 2) rfl (trivial)))) ?_ ?_
  · show ∀ i ∈ [0, 1, 2], _
    refine steps_cons (st_alloc 0 0 .u8 32 22 none _ _ rfl rfl (fun _ _ _ _ => rfl) rfl hLo rfl rfl rfl rfl (by rfl) (fun b G w hb ho => exec_box rfl (ev_off rfl (HS0.get 0 rfl)) (by kernel_rfl))) ?_
    refine steps_cons (st_alloc 1 1 .u64 20 28 none _ _ rfl rfl (fun _ _ _ _ => rfl) rfl hLo rfl rfl rfl rfl (by rfl) (fun b G w _ _ => by kernel_rfl)) ?_
    refine steps_cons (st_run 2 _ rfl rfl hLo rfl rfl (fun _ _ _ _ => rfl) (fun b G w hb ho => exec_move (.inr rfl) (rfl))) ?_
    exact steps_nil
  clear hLo
  intro G a1 w1 hS hH
  have HS1 : Sl a1 65 [(1, .pointer (some ⟨(G 0), 0, none⟩)), (2, .pointer (some ⟨(G 1), 0, none⟩)), (3, .bool false)] := hS
  have HH1 : Held w w1 [⟨(G 0), .u8, 32, b, 22⟩, ⟨(G 1), .u64, 20, fun _ => 0, 28⟩] := hH
  clear hS hH HS0 HH0
  generalize G 0 = g1_0 at HS1 HH1
  generalize G 1 = g1_1 at HS1 HH1
  refine then_ ?_
  refine wp_seq ?_
  have hLo : LOk [(0, 10, .val (.pointer (some ⟨g1_0, 31, none⟩))), (1, 11, .val (.int .u8 ((b) 31))), (2, 12, .val (.int .u8 (b 31 / 128))), (3, 13, .val (.bool r3)), (4, 4, .val (.bool r3))] := ⟨show ([0, 1, 2, 3, 4] : List Nat).Nodup by decide, show ([10, 11, 12, 13, 4] : List Nat).Nodup by decide⟩
  refine plain_ (wE := w) (sz := 65) (n := 5) [0, 1, 3, 7, 15] [(1, .val (.pointer (some ⟨g1_0, 0, none⟩))), (2, .val (.pointer (some ⟨g1_1, 0, none⟩))), (3, .val (.bool false)), (4, .val (.bool r3))] [(0, 10, .val (.pointer (some ⟨g1_0, 31, none⟩))), (1, 11, .val (.int .u8 ((b) 31))), (2, 12, .val (.int .u8 (b 31 / 128))), (3, 13, .val (.bool r3)), (4, 4, .val (.bool r3))] [⟨g1_0, none, none, .u8, 32, b, b, 22⟩, ⟨g1_1, none, none, .u64, 20, fun _ => 0, fun _ => 0, 28⟩] rfl (by rfl) HH1 rfl rfl hLo rfl HS1 (slS 0 rfl rfl (slS 1 rfl rfl (slS 2 rfl rfl (slL 4 (d := 4) rfl (trivial))))) ?_ ?_
  · show ∀ i ∈ [0, 1, 2, 3, 4], _
    refine steps_cons (st_run 0 _ rfl rfl hLo rfl rfl (fun _ _ _ _ => rfl) (fun b G w hb ho => exec_indexAddr rfl (ev_off rfl (HS1.get 0 rfl)) (rfl) (by kernel_rfl))) ?_
    refine steps_cons (st_read 1 0 _ _ rfl rfl rfl hLo rfl rfl (fun _ _ _ _ => rfl) (by rfl) (by rfl) (fun b G w hb ho hr => exec_cell hr (Nat.le_of_ble_eq_true rfl) Tryd.underlying5 rfl rfl (ev_on hLo 0 rfl HS1.1 rfl (hb 0 (by rfl))))) ?_
    refine steps_cons (st_run 2 _ rfl rfl hLo rfl rfl (fun _ _ _ _ => rfl) (fun b G w hb ho => exec_bin rfl (ev_on hLo 1 rfl HS1.1 rfl (hb 1 (by rfl))) (rfl) (shr7_run _ _ _ _))) ?_
    refine steps_cons (st_run 3 _ rfl rfl hLo rfl rfl (fun _ _ _ _ => rfl) (fun b G w hb ho => exec_bin rfl (ev_on hLo 2 rfl HS1.1 rfl (hb 2 (by rfl))) (rfl) (eq_run hr3 _ _ _))) ?_
    refine steps_cons (st_run 4 _ rfl rfl hLo rfl rfl (fun _ _ _ _ => rfl) (fun b G w hb ho => exec_move (.inr rfl) (ev_on hLo 3 rfl HS1.1 rfl (hb 3 (by rfl))))) ?_
    exact steps_nil
  clear hLo
  intro G a2 w2 hS hH
  have HS2 : Sl a2 65 [(1, .pointer (some ⟨g1_0, 0, none⟩)), (2, .pointer (some ⟨g1_1, 0, none⟩)), (3, .bool false), (4, .bool r3)] := hS
  have HH2 : Held w w2 [⟨g1_0, .u8, 32, b, 22⟩, ⟨g1_1, .u64, 20, fun _ => 0, 28⟩] := hH
  clear hS hH HS1 HH1
  refine then_ ?_
  refine wp_seq ?_
  have hLo : LOk [(0, 14, .val (.pointer (some ⟨g1_0, 31, none⟩))), (1, 15, .val (.int .u8 ((b) 31))), (2, 16, .val (.int .u8 (Go.bits .and .u8 (b 31) 127))), (3, 17, .val (.pointer (some ⟨g1_0, 31, none⟩)))] := ⟨show ([0, 1, 2, 3] : List Nat).Nodup by decide, show ([14, 15, 16, 17] : List Nat).Nodup by decide⟩
  refine plain_ (wE := w) (sz := 65) (n := 5) [0, 1, 3, 7, 15] [(1, .val (.pointer (some ⟨g1_0, 0, none⟩))), (2, .val (.pointer (some ⟨g1_1, 0, none⟩))), (3, .val (.bool false)), (4, .val (.bool r3))] [(0, 14, .val (.pointer (some ⟨g1_0, 31, none⟩))), (1, 15, .val (.int .u8 ((b) 31))), (2, 16, .val (.int .u8 (Go.bits .and .u8 (b 31) 127))), (3, 17, .val (.pointer (some ⟨g1_0, 31, none⟩)))] [⟨g1_0, none, some 4, .u8, 32, b, upd (b) 31 ((Go.bits .and .u8 (b 31) 127)), 22⟩, ⟨g1_1, none, none, .u64, 20, fun _ => 0, fun _ => 0, 28⟩] rfl (by rfl) HH2 rfl rfl hLo rfl HS2 (slS 0 rfl rfl (slS 1 rfl rfl (slS 2 rfl rfl (slS 3 rfl rfl (trivial))))) ?_ ?_
  · show ∀ i ∈ [0, 1, 2, 3, 4], _
    refine steps_cons (st_run 0 _ rfl rfl hLo rfl rfl (fun _ _ _ _ => rfl) (fun b G w hb ho => exec_indexAddr rfl (ev_off rfl (HS2.get 0 rfl)) (rfl) (by kernel_rfl))) ?_
    refine steps_cons (st_read 1 0 _ _ rfl rfl rfl hLo rfl rfl (fun _ _ _ _ => rfl) (by rfl) (by rfl) (fun b G w hb ho hr => exec_cell hr (Nat.le_of_ble_eq_true rfl) Tryd.underlying5 rfl rfl (ev_on hLo 0 rfl HS2.1 rfl (hb 0 (by rfl))))) ?_
    refine steps_cons (st_run 2 _ rfl rfl hLo rfl rfl (fun _ _ _ _ => rfl) (fun b G w hb ho => exec_bin rfl (ev_on hLo 1 rfl HS2.1 rfl (hb 1 (by rfl))) (rfl) (and127_run _ _ _ _))) ?_
    refine steps_cons (st_run 3 _ rfl rfl hLo rfl rfl (fun _ _ _ _ => rfl) (fun b G w hb ho => exec_indexAddr rfl (ev_off rfl (HS2.get 0 rfl)) (rfl) (by kernel_rfl))) ?_
    refine steps_cons (st_put 0 _ rfl rfl rfl rfl (fun _ _ _ _ => rfl) rfl rfl rfl (by rfl) (fun b G w hb ho hr => exec_put1 hr (Nat.le_of_ble_eq_true rfl) Fd.info5s rfl (ev_on hLo 3 rfl HS2.1 rfl (hb 3 (by rfl))) (ev_on hLo 2 rfl HS2.1 rfl (hb 2 (by rfl))))) ?_
    exact steps_nil
  clear hLo
  intro G a3 w3 hS hH
  have HS3 : Sl a3 65 [(1, .pointer (some ⟨g1_0, 0, none⟩)), (2, .pointer (some ⟨g1_1, 0, none⟩)), (3, .bool false), (4, .bool r3)] := hS
  have HH3 : Held w w3 [⟨g1_0, .u8, 32, lowB1 b, 22⟩, ⟨g1_1, .u64, 20, fun _ => 0, 28⟩] := hH
  clear hS hH HS2 HH2
  refine then_ ?_
  refine wp_seq ?_
  have hLo : LOk [(0, 18, .val (.agg (FR .u8 32 (lowB1 b)))), (1, 19, .val (.agg (FR .u64 5 (carr (ofL (lowB1 b)))))), (2, 5, .ptr 2 0)] := ⟨show ([0, 1, 2] : List Nat).Nodup by decide, show ([18, 19, 5] : List Nat).Nodup by decide⟩
  refine plain_ (wE := w) (sz := 65) (n := 4) [0, 1, 3, 7] [(1, .val (.pointer (some ⟨g1_0, 0, none⟩))), (2, .val (.pointer (some ⟨g1_1, 0, none⟩))), (3, .val (.bool false)), (4, .val (.bool r3)), (5, .ptr 2 0)] [(0, 18, .val (.agg (FR .u8 32 (lowB1 b)))), (1, 19, .val (.agg (FR .u64 5 (carr (ofL (lowB1 b)))))), (2, 5, .ptr 2 0)] [⟨g1_0, none, none, .u8, 32, lowB1 b, lowB1 b, 22⟩, ⟨g1_1, none, none, .u64, 20, fun _ => 0, fun _ => 0, 28⟩, ⟨0, some 2, some 3, .u64, 5, fun _ => 0, carr (ofL (lowB1 b)), 26⟩] rfl (by rfl) HH3 rfl rfl hLo rfl HS3 (slS 0 rfl rfl (slS 1 rfl rfl (slS 2 rfl rfl (slS 3 rfl rfl (slL 2 (d := 2) rfl (trivial)))))) ?_ ?_
  · show ∀ i ∈ [0, 1, 2, 3], _
    refine steps_cons (st_row0 0 0 _ rfl rfl rfl rfl (fun _ _ _ _ => rfl) hLo rfl rfl rfl (by rfl) Tryd.underlying22 infoB3 rfl (fun b G hb ho => ev_off rfl (HS3.get 0 rfl))) ?_
    refine steps_cons (st_call 1 _ #[.agg (FR .u8 32 (lowB1 b))] rfl rfl rfl (fun _ _ _ _ => rfl) hLo rfl rfl Tryd.func32 rfl rfl (fun b G hb ho => args1 (ev_on hLo 0 rfl HS3.1 rfl (hb 0 (by rfl)))) (fun w hw => Of_elem_calls _ w (lowB1_By hb))) ?_
    refine steps_cons (st_alloc 2 2 .u64 5 26 (some 3) _ _ rfl rfl (fun _ _ _ _ => rfl) rfl hLo rfl rfl rfl rfl (by rfl) (fun b G w _ _ => by kernel_rfl)) ?_
    refine steps_cons (st_store 2 _ rfl rfl rfl rfl rfl (fun _ _ _ _ => rfl) rfl rfl rfl (by rfl) infoEl (fun b G hb ho => ev_on hLo 2 rfl HS3.1 rfl (hb 2 (by rfl))) (fun b G hb ho => ev_on hLo 1 rfl HS3.1 rfl (hb 1 (by rfl)))) ?_
    exact steps_nil
  clear hLo
  intro G a4 w4 hS hH
  have HS4 : Sl a4 65 [(1, .pointer (some ⟨g1_0, 0, none⟩)), (2, .pointer (some ⟨g1_1, 0, none⟩)), (3, .bool false), (4, .bool r3), (5, .pointer (some ⟨(G 2), 0, none⟩))] := hS
  have HH4 : Held w w4 [⟨g1_0, .u8, 32, lowB1 b, 22⟩, ⟨g1_1, .u64, 20, fun _ => 0, 28⟩, ⟨(G 2), .u64, 5, dy b, 26⟩] := hH
  clear hS hH HS3 HH3
  generalize G 2 = g4_2 at HS4 HH4
  refine then_ ?_
  cases r1
  · skip
    refine wp_seq ?_
    refine wp_seq ?_
    have hLo : LOk [(0, 20, .val (.agg (FR .u64 5 (dy b)))), (1, 21, .val (.agg (FR .u8 32 (dig 256 (V51 (dy b) % PP))))), (2, 22, .val (.agg (FR .u8 32 (lowB1 b)))), (3, 23, .val (.bool true))] := ⟨show ([0, 1, 2, 3] : List Nat).Nodup by decide, show ([20, 21, 22, 23] : List Nat).Nodup by decide⟩
    refine region_ (wE := w) (sz := 65) (n := 4) (B := [0, 1, 0, 7]) [0, 1, 2, 3] [(1, .val (.pointer (some ⟨g1_0, 0, none⟩))), (2, .val (.pointer (some ⟨g1_1, 0, none⟩))), (3, .val (.bool false)), (4, .val (.bool r3)), (5, .val (.pointer (some ⟨g4_2, 0, none⟩))), (23, .val (.bool true))] [(0, 20, .val (.agg (FR .u64 5 (dy b)))), (1, 21, .val (.agg (FR .u8 32 (dig 256 (V51 (dy b) % PP))))), (2, 22, .val (.agg (FR .u8 32 (lowB1 b)))), (3, 23, .val (.bool true))] [⟨g1_0, none, none, .u8, 32, lowB1 b, lowB1 b, 22⟩, ⟨g1_1, none, none, .u64, 20, fun _ => 0, fun _ => 0, 28⟩, ⟨g4_2, none, none, .u64, 5, dy b, dy b, 26⟩] (by rfl) rfl tabdec_4 bitsdec_4 (by kernel_rfl) (by kernel_rfl) HH4 rfl rfl hLo rfl HS4 (slS 0 rfl rfl (slS 1 rfl rfl (slS 2 rfl rfl (slS 3 rfl rfl (slS 4 rfl rfl (slL 3 (d := 3) rfl (trivial))))))) ?_ ?_
    · show ∀ i ∈ [0, 1, 2, 3], _
      refine steps_cons (st_row0 0 2 _ rfl rfl rfl rfl (fun _ _ _ _ => rfl) hLo rfl rfl rfl (by rfl) Tryd.underlying26 infoEl rfl (fun b G hb ho => ev_off rfl (HS4.get 4 rfl))) ?_
      refine steps_cons (st_call 1 _ #[.agg (FR .u64 5 (dy b))] rfl rfl rfl (fun _ _ _ _ => rfl) hLo rfl rfl Tryd.func30 rfl rfl (fun b G hb ho => args1 (ev_on hLo 0 rfl HS4.1 rfl (hb 0 (by rfl)))) (fun w hw => bytes_r (dy_Lm hb) (rfl : dig 256 (V51 (dy b) % PP) = dig 256 (V51 (dy b) % PP)) w)) ?_
      refine steps_cons (st_row0 2 0 _ rfl rfl rfl rfl (fun _ _ _ _ => rfl) hLo rfl rfl rfl (by rfl) Tryd.underlying22 infoB3 rfl (fun b G hb ho => ev_off rfl (HS4.get 0 rfl))) ?_
      refine steps_cons (st_run 3 _ rfl rfl hLo rfl rfl (fun _ _ _ _ => rfl) (fun b G w hb ho => exec_bin rfl (ev_on hLo 1 rfl HS4.1 rfl (hb 1 (by rfl))) (ev_on hLo 2 rfl HS4.1 rfl (hb 2 (by rfl))) (neqB_run hr1 _ _ _))) ?_
      exact steps_nil
    clear hLo
    intro G a5 w5 hS hH
    have HS5 : Sl a5 65 [(1, .pointer (some ⟨g1_0, 0, none⟩)), (2, .pointer (some ⟨g1_1, 0, none⟩)), (3, .bool false), (4, .bool r3), (5, .pointer (some ⟨g4_2, 0, none⟩)), (23, .bool true)] := hS
    have HH5 : Held w w5 [⟨g1_0, .u8, 32, lowB1 b, 22⟩, ⟨g1_1, .u64, 20, fun _ => 0, 28⟩, ⟨g4_2, .u64, 5, dy b, 26⟩] := hH
    clear hS hH HS4 HH4
    refine then_ ?_
    refine wp_cond_true (HS5.get 5 rfl) ?_
    refine wp_seq ?_
    have hLo : LOk [(0, 24, .val (.agg (FR .u64 20 (fun _ => 0)))), (2, 3, .val (.bool false))] := ⟨show ([0, 2] : List Nat).Nodup by decide, show ([24, 3] : List Nat).Nodup by decide⟩
    refine plain_ (wE := w) (sz := 65) (n := 3) [0, 1, 3] [(2, .val (.pointer (some ⟨g1_1, 0, none⟩))), (3, .val (.bool false))] [(0, 24, .val (.agg (FR .u64 20 (fun _ => 0)))), (2, 3, .val (.bool false))] [⟨g1_0, none, none, .u8, 32, lowB1 b, lowB1 b, 22⟩, ⟨g1_1, none, some 1, .u64, 20, fun _ => 0, fun _ => 0, 28⟩, ⟨g4_2, none, none, .u64, 5, dy b, dy b, 26⟩] rfl (by rfl) HH5 rfl rfl hLo rfl HS5 (slS 1 rfl rfl (slL 1 (d := 2) rfl (trivial))) ?_ ?_
    · show ∀ i ∈ [0, 1, 2], _
      refine steps_cons (st_run 0 _ rfl rfl hLo rfl rfl (fun _ _ _ _ => rfl) (fun b G w hb ho => exec_build rfl (parts0 ) (by kernel_rfl))) ?_
      refine steps_cons (st_store 1 _ rfl rfl rfl rfl rfl (fun _ _ _ _ => rfl) rfl rfl rfl (by rfl) infoPt (fun b G hb ho => ev_off rfl (HS5.get 1 rfl)) (fun b G hb ho => ev_on hLo 0 rfl HS5.1 rfl (hb 0 (by rfl)))) ?_
      refine steps_cons (st_run 1 _ rfl rfl hLo rfl rfl (fun _ _ _ _ => rfl) (fun b G w hb ho => exec_move (.inr rfl) (rfl))) ?_
      exact steps_nil
    clear hLo
    intro G a6 w6 hS hH
    have HS6 : Sl a6 65 [(2, .pointer (some ⟨g1_1, 0, none⟩)), (3, .bool false)] := hS
    have HH6 : Held w w6 [⟨g1_0, .u8, 32, lowB1 b, 22⟩, ⟨g1_1, .u64, 20, fun _ => 0, 28⟩, ⟨g4_2, .u64, 5, dy b, 26⟩] := hH
    clear hS hH HS5 HH5
    refine then_ ?_
    refine wp_ret ?_
    repeat refine then_ret ?_
    exact b_row2 rfl HS6.2.1 (HS6.get 0 rfl) (HS6.get 1 rfl) (HH6.row 1 rfl) Tryd.underlying28 rfl infoPt ⟨by rw [decP_n (by unfold decOk; rw [hr1]; rfl), show decOk b = false by unfold decOk; rw [hr1]; rfl], HH6.1⟩
  · skip
    refine wp_seq ?_
    refine wp_seq ?_
    have hLo : LOk [(0, 20, .val (.agg (FR .u64 5 (dy b)))), (1, 21, .val (.agg (FR .u8 32 (dig 256 (V51 (dy b) % PP))))), (2, 22, .val (.agg (FR .u8 32 (lowB1 b)))), (3, 23, .val (.bool false))] := ⟨show ([0, 1, 2, 3] : List Nat).Nodup by decide, show ([20, 21, 22, 23] : List Nat).Nodup by decide⟩
    refine region_ (wE := w) (sz := 65) (n := 4) (B := [0, 1, 0, 7]) [0, 1, 2, 3] [(1, .val (.pointer (some ⟨g1_0, 0, none⟩))), (2, .val (.pointer (some ⟨g1_1, 0, none⟩))), (3, .val (.bool false)), (4, .val (.bool r3)), (5, .val (.pointer (some ⟨g4_2, 0, none⟩))), (23, .val (.bool false))] [(0, 20, .val (.agg (FR .u64 5 (dy b)))), (1, 21, .val (.agg (FR .u8 32 (dig 256 (V51 (dy b) % PP))))), (2, 22, .val (.agg (FR .u8 32 (lowB1 b)))), (3, 23, .val (.bool false))] [⟨g1_0, none, none, .u8, 32, lowB1 b, lowB1 b, 22⟩, ⟨g1_1, none, none, .u64, 20, fun _ => 0, fun _ => 0, 28⟩, ⟨g4_2, none, none, .u64, 5, dy b, dy b, 26⟩] (by rfl) rfl tabdec_4 bitsdec_4 (by kernel_rfl) (by kernel_rfl) HH4 rfl rfl hLo rfl HS4 (slS 0 rfl rfl (slS 1 rfl rfl (slS 2 rfl rfl (slS 3 rfl rfl (slS 4 rfl rfl (slL 3 (d := 3) rfl (trivial))))))) ?_ ?_
    · show ∀ i ∈ [0, 1, 2, 3], _
      refine steps_cons (st_row0 0 2 _ rfl rfl rfl rfl (fun _ _ _ _ => rfl) hLo rfl rfl rfl (by rfl) Tryd.underlying26 infoEl rfl (fun b G hb ho => ev_off rfl (HS4.get 4 rfl))) ?_
      refine steps_cons (st_call 1 _ #[.agg (FR .u64 5 (dy b))] rfl rfl rfl (fun _ _ _ _ => rfl) hLo rfl rfl Tryd.func30 rfl rfl (fun b G hb ho => args1 (ev_on hLo 0 rfl HS4.1 rfl (hb 0 (by rfl)))) (fun w hw => bytes_r (dy_Lm hb) (rfl : dig 256 (V51 (dy b) % PP) = dig 256 (V51 (dy b) % PP)) w)) ?_
      refine steps_cons (st_row0 2 0 _ rfl rfl rfl rfl (fun _ _ _ _ => rfl) hLo rfl rfl rfl (by rfl) Tryd.underlying22 infoB3 rfl (fun b G hb ho => ev_off rfl (HS4.get 0 rfl))) ?_
      refine steps_cons (st_run 3 _ rfl rfl hLo rfl rfl (fun _ _ _ _ => rfl) (fun b G w hb ho => exec_bin rfl (ev_on hLo 1 rfl HS4.1 rfl (hb 1 (by rfl))) (ev_on hLo 2 rfl HS4.1 rfl (hb 2 (by rfl))) (neqB_run hr1 _ _ _))) ?_
      exact steps_nil
    clear hLo
    intro G a7 w7 hS hH
    have HS7 : Sl a7 65 [(1, .pointer (some ⟨g1_0, 0, none⟩)), (2, .pointer (some ⟨g1_1, 0, none⟩)), (3, .bool false), (4, .bool r3), (5, .pointer (some ⟨g4_2, 0, none⟩)), (23, .bool false)] := hS
    have HH7 : Held w w7 [⟨g1_0, .u8, 32, lowB1 b, 22⟩, ⟨g1_1, .u64, 20, fun _ => 0, 28⟩, ⟨g4_2, .u64, 5, dy b, 26⟩] := hH
    clear hS hH HS4 HH4
    refine then_ ?_
    refine wp_cond_false (HS7.get 5 rfl) ?_
    refine wp_skip ?_
    refine then_ ?_
    refine wp_seq ?_
    have hLo : LOk [(0, 25, .val (.agg (FR .u64 5 (smL 1)))), (1, 26, .val (.agg (FR .u64 5 (dy b)))), (2, 27, .val (.agg (FR .u64 5 (dy b)))), (3, 28, .val (.agg (FR .u64 5 (mulE (dy b) (dy b))))), (4, 6, .ptr 4 0), (5, 7, .ptr 5 0)] := ⟨show ([0, 1, 2, 3, 4, 5] : List Nat).Nodup by decide, show ([25, 26, 27, 28, 6, 7] : List Nat).Nodup by decide⟩
    refine region_ (wE := w) (sz := 65) (n := 8) (B := [0, 0, 0, 7, 0, 0, 63, 127]) [0, 1, 2, 3, 4, 5, 6, 7] [(2, .val (.pointer (some ⟨g1_1, 0, none⟩))), (4, .val (.bool r3)), (5, .val (.pointer (some ⟨g4_2, 0, none⟩))), (6, .ptr 4 0), (7, .ptr 5 0)] [(0, 25, .val (.agg (FR .u64 5 (smL 1)))), (1, 26, .val (.agg (FR .u64 5 (dy b)))), (2, 27, .val (.agg (FR .u64 5 (dy b)))), (3, 28, .val (.agg (FR .u64 5 (mulE (dy b) (dy b))))), (4, 6, .ptr 4 0), (5, 7, .ptr 5 0)] [⟨g1_0, none, none, .u8, 32, lowB1 b, lowB1 b, 22⟩, ⟨g1_1, none, none, .u64, 20, fun _ => 0, fun _ => 0, 28⟩, ⟨g4_2, none, none, .u64, 5, dy b, dy b, 26⟩, ⟨0, some 4, some 6, .u64, 5, fun _ => 0, smL 1, 26⟩, ⟨0, some 5, some 7, .u64, 5, fun _ => 0, mulE (dy b) (dy b), 26⟩] (by rfl) rfl tabdec_6 bitsdec_6 (by kernel_rfl) (by kernel_rfl) HH7 rfl rfl hLo rfl HS7 (slS 1 rfl rfl (slS 3 rfl rfl (slS 4 rfl rfl (slL 4 (d := 4) rfl (slL 5 (d := 5) rfl (trivial)))))) ?_ ?_
    · show ∀ i ∈ [0, 1, 2, 3, 4, 5, 6, 7], _
      refine steps_cons (st_call 0 _ #[.int .u32 1] rfl rfl rfl (fun _ _ _ _ => rfl) hLo rfl rfl Tryd.func27 rfl rfl (fun b G hb ho => args1 (rfl)) (fun w hw => Fd.small_elem_calls 1 w (by omega))) ?_
      refine steps_cons (st_row0 1 2 _ rfl rfl rfl rfl (fun _ _ _ _ => rfl) hLo rfl rfl rfl (by rfl) Tryd.underlying26 infoEl rfl (fun b G hb ho => ev_off rfl (HS7.get 4 rfl))) ?_
      refine steps_cons (st_row0 2 2 _ rfl rfl rfl rfl (fun _ _ _ _ => rfl) hLo rfl rfl rfl (by rfl) Tryd.underlying26 infoEl rfl (fun b G hb ho => ev_off rfl (HS7.get 4 rfl))) ?_
      refine steps_cons (st_call 3 _ #[.agg (FR .u64 5 (dy b)), .agg (FR .u64 5 (dy b))] rfl rfl rfl (fun _ _ _ _ => rfl) hLo rfl rfl Tryd.func29 rfl rfl (fun b G hb ho => args2 (ev_on hLo 1 rfl HS7.1 rfl (hb 1 (by rfl))) (ev_on hLo 2 rfl HS7.1 rfl (hb 2 (by rfl)))) (fun w hw => elem_mul_calls _ _ w (dy_Lm hb) (dy_Lm hb))) ?_
      refine steps_cons (st_alloc 4 3 .u64 5 26 (some 6) _ _ rfl rfl (fun _ _ _ _ => rfl) rfl hLo rfl rfl rfl rfl (by rfl) (fun b G w _ _ => by kernel_rfl)) ?_
      refine steps_cons (st_alloc 5 4 .u64 5 26 (some 7) _ _ rfl rfl (fun _ _ _ _ => rfl) rfl hLo rfl rfl rfl rfl (by rfl) (fun b G w _ _ => by kernel_rfl)) ?_
      refine steps_cons (st_store 3 _ rfl rfl rfl rfl rfl (fun _ _ _ _ => rfl) rfl rfl rfl (by rfl) infoEl (fun b G hb ho => ev_on hLo 4 rfl HS7.1 rfl (hb 4 (by rfl))) (fun b G hb ho => ev_on hLo 0 rfl HS7.1 rfl (hb 0 (by rfl)))) ?_
      refine steps_cons (st_store 4 _ rfl rfl rfl rfl rfl (fun _ _ _ _ => rfl) rfl rfl rfl (by rfl) infoEl (fun b G hb ho => ev_on hLo 5 rfl HS7.1 rfl (hb 5 (by rfl))) (fun b G hb ho => ev_on hLo 3 rfl HS7.1 rfl (hb 3 (by rfl)))) ?_
      exact steps_nil
    clear hLo
    intro G a8 w8 hS hH
    have HS8 : Sl a8 65 [(2, .pointer (some ⟨g1_1, 0, none⟩)), (4, .bool r3), (5, .pointer (some ⟨g4_2, 0, none⟩)), (6, .pointer (some ⟨(G 4), 0, none⟩)), (7, .pointer (some ⟨(G 5), 0, none⟩))] := hS
    have HH8 : Held w w8 [⟨g1_0, .u8, 32, lowB1 b, 22⟩, ⟨g1_1, .u64, 20, fun _ => 0, 28⟩, ⟨g4_2, .u64, 5, dy b, 26⟩, ⟨(G 4), .u64, 5, smL 1, 26⟩, ⟨(G 5), .u64, 5, dsq b, 26⟩] := hH
    clear hS hH HS7 HH7
    generalize G 4 = g8_4 at HS8 HH8
    generalize G 5 = g8_5 at HS8 HH8
    refine then_ ?_
    refine wp_seq ?_
    have hLo : LOk [(0, 30, .val (.agg (FR .u64 5 (dsq b)))), (1, 31, .val (.agg (FR .u64 5 (smL 1)))), (2, 32, .val (.agg (FR .u64 5 (subE (dsq b) (smL 1))))), (3, 33, .val (.agg (FR .u64 5 (dsq b)))), (4, 34, .val (.agg (FR .u8 32 (dB)))), (5, 35, .val (.agg (FR .u64 5 (carr (ofL (dB)))))), (6, 36, .val (.agg (FR .u64 5 (mulE (dsq b) (carr (ofL (dB))))))), (7, 37, .val (.agg (FR .u64 5 (smL 1)))), (8, 38, .val (.agg (FR .u64 5 (addE (mulE (dsq b) (carr (ofL (dB)))) (smL 1))))), (9, 39, .val (.agg (FR .u64 5 (invE (addE (mulE (dsq b) (carr (ofL (dB)))) (smL 1)))))), (10, 40, .val (.agg (FR .u64 5 (mulE (subE (dsq b) (smL 1)) (invE (addE (mulE (dsq b) (carr (ofL (dB)))) (smL 1))))))), (11, 41, .val (.tuple #[.agg (FR .u64 5 (X)), .bool r2])), (12, 29, .val (.tuple #[.agg (FR .u64 5 (X)), .bool r2])), (13, 42, .val (.agg (FR .u64 5 (X)))), (14, 43, .val (.bool r2)), (15, 8, .ptr 15 0), (17, 9, .val (.bool r2))] := ⟨show ([0, 1, 2, 3, 4, 5, 6, 7, 8, 9, 10, 11, 12, 13, 14, 15, 17] : List Nat).Nodup by decide, show ([30, 31, 32, 33, 34, 35, 36, 37, 38, 39, 40, 41, 29, 42, 43, 8, 9] : List Nat).Nodup by decide⟩
    refine region_ (wE := w) (sz := 65) (n := 18) (B := [0, 0, 3, 0, 0, 23, 63, 0, 255, 511, 1023, 2047, 4095, 8191, 8191, 0, 49151, 131071]) [0, 1, 2, 3, 4, 5, 6, 7, 8, 9, 10, 11, 12, 13, 14, 15, 16, 17] [(2, .val (.pointer (some ⟨g1_1, 0, none⟩))), (4, .val (.bool r3)), (5, .val (.pointer (some ⟨g4_2, 0, none⟩))), (6, .val (.pointer (some ⟨g8_4, 0, none⟩))), (8, .ptr 15 0), (9, .val (.bool r2))] [(0, 30, .val (.agg (FR .u64 5 (dsq b)))), (1, 31, .val (.agg (FR .u64 5 (smL 1)))), (2, 32, .val (.agg (FR .u64 5 (subE (dsq b) (smL 1))))), (3, 33, .val (.agg (FR .u64 5 (dsq b)))), (4, 34, .val (.agg (FR .u8 32 (dB)))), (5, 35, .val (.agg (FR .u64 5 (carr (ofL (dB)))))), (6, 36, .val (.agg (FR .u64 5 (mulE (dsq b) (carr (ofL (dB))))))), (7, 37, .val (.agg (FR .u64 5 (smL 1)))), (8, 38, .val (.agg (FR .u64 5 (addE (mulE (dsq b) (carr (ofL (dB)))) (smL 1))))), (9, 39, .val (.agg (FR .u64 5 (invE (addE (mulE (dsq b) (carr (ofL (dB)))) (smL 1)))))), (10, 40, .val (.agg (FR .u64 5 (mulE (subE (dsq b) (smL 1)) (invE (addE (mulE (dsq b) (carr (ofL (dB)))) (smL 1))))))), (11, 41, .val (.tuple #[.agg (FR .u64 5 (X)), .bool r2])), (12, 29, .val (.tuple #[.agg (FR .u64 5 (X)), .bool r2])), (13, 42, .val (.agg (FR .u64 5 (X)))), (14, 43, .val (.bool r2)), (15, 8, .ptr 15 0), (17, 9, .val (.bool r2))] [⟨g1_0, none, none, .u8, 32, lowB1 b, lowB1 b, 22⟩, ⟨g1_1, none, none, .u64, 20, fun _ => 0, fun _ => 0, 28⟩, ⟨g4_2, none, none, .u64, 5, dy b, dy b, 26⟩, ⟨g8_4, none, none, .u64, 5, smL 1, smL 1, 26⟩, ⟨g8_5, none, none, .u64, 5, dsq b, dsq b, 26⟩, ⟨0, some 15, some 16, .u64, 5, fun _ => 0, X, 26⟩] (by rfl) rfl tabdec_7 bitsdec_7 (by kernel_rfl) (by kernel_rfl) HH8 rfl rfl hLo rfl HS8 (slS 0 rfl rfl (slS 1 rfl rfl (slS 2 rfl rfl (slS 3 rfl rfl (slL 15 (d := 15) rfl (slL 16 (d := 17) rfl (trivial))))))) ?_ ?_
    · show ∀ i ∈ [0, 1, 2, 3, 4, 5, 6, 7, 8, 9, 10, 11, 12, 13, 14, 15, 16, 17], _
      refine steps_cons (st_row0 0 4 _ rfl rfl rfl rfl (fun _ _ _ _ => rfl) hLo rfl rfl rfl (by rfl) Tryd.underlying26 infoEl rfl (fun b G hb ho => ev_off rfl (HS8.get 4 rfl))) ?_
      refine steps_cons (st_row0 1 3 _ rfl rfl rfl rfl (fun _ _ _ _ => rfl) hLo rfl rfl rfl (by rfl) Tryd.underlying26 infoEl rfl (fun b G hb ho => ev_off rfl (HS8.get 3 rfl))) ?_
      refine steps_cons (st_call 2 _ #[.agg (FR .u64 5 (dsq b)), .agg (FR .u64 5 (smL 1))] rfl rfl rfl (fun _ _ _ _ => rfl) hLo rfl rfl Tryd.func33 rfl rfl (fun b G hb ho => args2 (ev_on hLo 0 rfl HS8.1 rfl (hb 0 (by rfl))) (ev_on hLo 1 rfl HS8.1 rfl (hb 1 (by rfl)))) (fun w hw => subE_c _ _ w (dsq_Lm hb) (smL_Lm 1 (by omega)))) ?_
      refine steps_cons (st_row0 3 4 _ rfl rfl rfl rfl (fun _ _ _ _ => rfl) hLo rfl rfl rfl (by rfl) Tryd.underlying26 infoEl rfl (fun b G hb ho => ev_off rfl (HS8.get 4 rfl))) ?_
      refine steps_cons (st_table 4 rfl rfl rfl (fun _ _ _ _ => rfl) hLo rfl rfl Tryd.underlying22 infoB3 rfl (fun w' hb => hT.at w' hb) rfl) ?_
      refine steps_cons (st_call 5 _ #[.agg (FR .u8 32 (dB))] rfl rfl rfl (fun _ _ _ _ => rfl) hLo rfl rfl Tryd.func32 rfl rfl (fun b G hb ho => args1 (ev_on hLo 4 rfl HS8.1 rfl (hb 4 (by rfl)))) (fun w hw => Of_elem_calls _ w dB_By)) ?_
      refine steps_cons (st_call 6 _ #[.agg (FR .u64 5 (dsq b)), .agg (FR .u64 5 (carr (ofL (dB))))] rfl rfl rfl (fun _ _ _ _ => rfl) hLo rfl rfl Tryd.func29 rfl rfl (fun b G hb ho => args2 (ev_on hLo 3 rfl HS8.1 rfl (hb 3 (by rfl))) (ev_on hLo 5 rfl HS8.1 rfl (hb 5 (by rfl)))) (fun w hw => elem_mul_calls _ _ w (dsq_Lm hb) (lof dB_By))) ?_
      refine steps_cons (st_row0 7 3 _ rfl rfl rfl rfl (fun _ _ _ _ => rfl) hLo rfl rfl rfl (by rfl) Tryd.underlying26 infoEl rfl (fun b G hb ho => ev_off rfl (HS8.get 3 rfl))) ?_
      refine steps_cons (st_call 8 _ #[.agg (FR .u64 5 (mulE (dsq b) (carr (ofL (dB))))), .agg (FR .u64 5 (smL 1))] rfl rfl rfl (fun _ _ _ _ => rfl) hLo rfl rfl Tryd.func34 rfl rfl (fun b G hb ho => args2 (ev_on hLo 6 rfl HS8.1 rfl (hb 6 (by rfl))) (ev_on hLo 7 rfl HS8.1 rfl (hb 7 (by rfl)))) (fun w hw => addE_c _ _ w (lmul (dsq_Lm hb) (lof dB_By)) (smL_Lm 1 (by omega)))) ?_
      refine steps_cons (st_call 9 _ #[.agg (FR .u64 5 (addE (mulE (dsq b) (carr (ofL (dB)))) (smL 1)))] rfl rfl rfl (fun _ _ _ _ => rfl) hLo rfl rfl Tryd.func28 rfl rfl (fun b G hb ho => args1 (ev_on hLo 8 rfl HS8.1 rfl (hb 8 (by rfl)))) (fun w hw => invE_calls _ w (ladd (lmul (dsq_Lm hb) (lof dB_By)) (smL_Lm 1 (by omega))))) ?_
      refine steps_cons (st_call 10 _ #[.agg (FR .u64 5 (subE (dsq b) (smL 1))), .agg (FR .u64 5 (invE (addE (mulE (dsq b) (carr (ofL (dB)))) (smL 1))))] rfl rfl rfl (fun _ _ _ _ => rfl) hLo rfl rfl Tryd.func29 rfl rfl (fun b G hb ho => args2 (ev_on hLo 2 rfl HS8.1 rfl (hb 2 (by rfl))) (ev_on hLo 9 rfl HS8.1 rfl (hb 9 (by rfl)))) (fun w hw => elem_mul_calls _ _ w (lsub (dsq_Lm hb) (smL_Lm 1 (by omega))) (linv (ladd (lmul (dsq_Lm hb) (lof dB_By)) (smL_Lm 1 (by omega)))))) ?_
      refine steps_cons (st_call 11 _ #[.agg (FR .u64 5 (mulE (subE (dsq b) (smL 1)) (invE (addE (mulE (dsq b) (carr (ofL (dB)))) (smL 1)))))] rfl rfl rfl (fun _ _ _ _ => rfl) hLo rfl rfl Tryd.func35 rfl rfl (fun b G hb ho => args1 (ev_on hLo 10 rfl HS8.1 rfl (hb 10 (by rfl)))) (fun w hw => root_r (dq_Lm hb) hr2 hX w)) ?_
      refine steps_cons (st_run 12 _ rfl rfl hLo rfl rfl (fun _ _ _ _ => rfl) (fun b G w hb ho => exec_move (.inl rfl) (ev_on hLo 11 rfl HS8.1 rfl (hb 11 (by rfl))))) ?_
      refine steps_cons (st_run 13 _ rfl rfl hLo rfl rfl (fun _ _ _ _ => rfl) (fun b G w hb ho => exec_extract rfl (ev_on hLo 12 rfl HS8.1 rfl (hb 12 (by rfl))) (by rfl))) ?_
      refine steps_cons (st_run 14 _ rfl rfl hLo rfl rfl (fun _ _ _ _ => rfl) (fun b G w hb ho => exec_extract rfl (ev_on hLo 12 rfl HS8.1 rfl (hb 12 (by rfl))) (by rfl))) ?_
      refine steps_cons (st_alloc 15 5 .u64 5 26 (some 16) _ _ rfl rfl (fun _ _ _ _ => rfl) rfl hLo rfl rfl rfl rfl (by rfl) (fun b G w _ _ => by kernel_rfl)) ?_
      refine steps_cons (st_store 5 _ rfl rfl rfl rfl rfl (fun _ _ _ _ => rfl) rfl rfl rfl (by rfl) infoEl (fun b G hb ho => ev_on hLo 15 rfl HS8.1 rfl (hb 15 (by rfl))) (fun b G hb ho => ev_on hLo 13 rfl HS8.1 rfl (hb 13 (by rfl)))) ?_
      refine steps_cons (st_run 16 _ rfl rfl hLo rfl rfl (fun _ _ _ _ => rfl) (fun b G w hb ho => exec_move (.inr rfl) (ev_on hLo 14 rfl HS8.1 rfl (hb 14 (by rfl))))) ?_
      exact steps_nil
    clear hLo
    intro G a9 w9 hS hH
    have HS9 : Sl a9 65 [(2, .pointer (some ⟨g1_1, 0, none⟩)), (4, .bool r3), (5, .pointer (some ⟨g4_2, 0, none⟩)), (6, .pointer (some ⟨g8_4, 0, none⟩)), (8, .pointer (some ⟨(G 15), 0, none⟩)), (9, .bool r2)] := hS
    have HH9 : Held w w9 [⟨g1_0, .u8, 32, lowB1 b, 22⟩, ⟨g1_1, .u64, 20, fun _ => 0, 28⟩, ⟨g4_2, .u64, 5, dy b, 26⟩, ⟨g8_4, .u64, 5, smL 1, 26⟩, ⟨g8_5, .u64, 5, dsq b, 26⟩, ⟨(G 15), .u64, 5, X, 26⟩] := hH
    clear hS hH HS8 HH8
    generalize G 15 = g9_15 at HS9 HH9
    refine then_ ?_
    cases r2
    · skip
      refine wp_seq ?_
      refine wp_seq ?_
      have hLo : LOk [(0, 44, .val (.bool false)), (1, 45, .val (.bool true)), (2, 46, .val (.bool true)), (3, 47, .val (undef)), (4, 48, .val (undef)), (5, 49, .val (undef)), (6, 50, .val (undef)), (7, 51, .val (undef)), (8, 52, .val (undef)), (9, 53, .val (.bool true))] := ⟨show ([0, 1, 2, 3, 4, 5, 6, 7, 8, 9] : List Nat).Nodup by decide, show ([44, 45, 46, 47, 48, 49, 50, 51, 52, 53] : List Nat).Nodup by decide⟩
      refine plain_ (wE := w) (sz := 65) (n := 10) [0, 1, 3, 7, 15, 31, 63, 127, 255, 511] [(2, .val (.pointer (some ⟨g1_1, 0, none⟩))), (53, .val (.bool true))] [(0, 44, .val (.bool false)), (1, 45, .val (.bool true)), (2, 46, .val (.bool true)), (3, 47, .val (undef)), (4, 48, .val (undef)), (5, 49, .val (undef)), (6, 50, .val (undef)), (7, 51, .val (undef)), (8, 52, .val (undef)), (9, 53, .val (.bool true))] [⟨g1_0, none, none, .u8, 32, lowB1 b, lowB1 b, 22⟩, ⟨g1_1, none, none, .u64, 20, fun _ => 0, fun _ => 0, 28⟩, ⟨g4_2, none, none, .u64, 5, dy b, dy b, 26⟩, ⟨g8_4, none, none, .u64, 5, smL 1, smL 1, 26⟩, ⟨g8_5, none, none, .u64, 5, dsq b, dsq b, 26⟩, ⟨g9_15, none, none, .u64, 5, X, X, 26⟩] rfl (by rfl) HH9 rfl rfl hLo rfl HS9 (slS 0 rfl rfl (slL 9 (d := 9) rfl (trivial))) ?_ ?_
      · show ∀ i ∈ [0, 1, 2, 3, 4, 5, 6, 7, 8, 9], _
        refine steps_cons (st_run 0 _ rfl rfl hLo rfl rfl (fun _ _ _ _ => rfl) (fun b G w hb ho => exec_move (.inl rfl) (ev_off rfl (HS9.get 5 rfl)))) ?_
        refine steps_cons (st_run 1 _ rfl rfl hLo rfl rfl (fun _ _ _ _ => rfl) (fun b G w hb ho => exec_un rfl (ev_on hLo 0 rfl HS9.1 rfl (hb 0 (by rfl))) (by rfl))) ?_
        refine steps_cons (st_run 2 _ rfl rfl hLo rfl rfl (fun _ _ _ _ => rfl) (fun b G w hb ho => exec_move (.inl rfl) (ev_on hLo 1 rfl HS9.1 rfl (hb 1 (by rfl))))) ?_
        refine steps_cons (st_skip 3 rfl rfl hLo rfl rfl (fun b G hb ho => wanted_is rfl rfl rfl HS9.1 rfl (ev_on hLo 2 rfl HS9.1 rfl (hb 2 (by rfl))) rfl)) ?_
        refine steps_cons (st_skip 4 rfl rfl hLo rfl rfl (fun b G hb ho => wanted_is rfl rfl rfl HS9.1 rfl (ev_on hLo 2 rfl HS9.1 rfl (hb 2 (by rfl))) rfl)) ?_
        refine steps_cons (st_skip 5 rfl rfl hLo rfl rfl (fun b G hb ho => wanted_un rfl rfl rfl HS9.1 rfl (ev_on hLo 4 rfl HS9.1 rfl (hb 4 (by rfl))))) ?_
        refine steps_cons (st_skip 6 rfl rfl hLo rfl rfl (fun b G hb ho => wanted_un rfl rfl rfl HS9.1 rfl (ev_on hLo 4 rfl HS9.1 rfl (hb 4 (by rfl))))) ?_
        refine steps_cons (st_skip 7 rfl rfl hLo rfl rfl (fun b G hb ho => wanted_un rfl rfl rfl HS9.1 rfl (ev_on hLo 4 rfl HS9.1 rfl (hb 4 (by rfl))))) ?_
        refine steps_cons (st_skip 8 rfl rfl hLo rfl rfl (fun b G hb ho => wanted_is rfl rfl rfl HS9.1 rfl (ev_on hLo 2 rfl HS9.1 rfl (hb 2 (by rfl))) rfl)) ?_
        refine steps_cons (st_run 9 _ rfl rfl hLo rfl rfl (fun _ _ _ _ => rfl) (fun b G w hb ho => exec_pick rfl (ev_on hLo 2 rfl HS9.1 rfl (hb 2 (by rfl))) (rfl))) ?_
        exact steps_nil
      clear hLo
      intro G a10 w10 hS hH
      have HS10 : Sl a10 65 [(2, .pointer (some ⟨g1_1, 0, none⟩)), (53, .bool true)] := hS
      have HH10 : Held w w10 [⟨g1_0, .u8, 32, lowB1 b, 22⟩, ⟨g1_1, .u64, 20, fun _ => 0, 28⟩, ⟨g4_2, .u64, 5, dy b, 26⟩, ⟨g8_4, .u64, 5, smL 1, 26⟩, ⟨g8_5, .u64, 5, dsq b, 26⟩, ⟨g9_15, .u64, 5, X, 26⟩] := hH
      clear hS hH HS9 HH9
      refine then_ ?_
      refine wp_cond_true (HS10.get 1 rfl) ?_
      refine wp_seq ?_
      have hLo : LOk [(0, 54, .val (.agg (FR .u64 20 (fun _ => 0)))), (2, 3, .val (.bool false))] := ⟨show ([0, 2] : List Nat).Nodup by decide, show ([54, 3] : List Nat).Nodup by decide⟩
      refine plain_ (wE := w) (sz := 65) (n := 3) [0, 1, 3] [(2, .val (.pointer (some ⟨g1_1, 0, none⟩))), (3, .val (.bool false))] [(0, 54, .val (.agg (FR .u64 20 (fun _ => 0)))), (2, 3, .val (.bool false))] [⟨g1_0, none, none, .u8, 32, lowB1 b, lowB1 b, 22⟩, ⟨g1_1, none, some 1, .u64, 20, fun _ => 0, fun _ => 0, 28⟩, ⟨g4_2, none, none, .u64, 5, dy b, dy b, 26⟩, ⟨g8_4, none, none, .u64, 5, smL 1, smL 1, 26⟩, ⟨g8_5, none, none, .u64, 5, dsq b, dsq b, 26⟩, ⟨g9_15, none, none, .u64, 5, X, X, 26⟩] rfl (by rfl) HH10 rfl rfl hLo rfl HS10 (slS 0 rfl rfl (slL 1 (d := 2) rfl (trivial))) ?_ ?_
      · show ∀ i ∈ [0, 1, 2], _
        refine steps_cons (st_run 0 _ rfl rfl hLo rfl rfl (fun _ _ _ _ => rfl) (fun b G w hb ho => exec_build rfl (parts0 ) (by kernel_rfl))) ?_
        refine steps_cons (st_store 1 _ rfl rfl rfl rfl rfl (fun _ _ _ _ => rfl) rfl rfl rfl (by rfl) infoPt (fun b G hb ho => ev_off rfl (HS10.get 0 rfl)) (fun b G hb ho => ev_on hLo 0 rfl HS10.1 rfl (hb 0 (by rfl)))) ?_
        refine steps_cons (st_run 1 _ rfl rfl hLo rfl rfl (fun _ _ _ _ => rfl) (fun b G w hb ho => exec_move (.inr rfl) (rfl))) ?_
        exact steps_nil
      clear hLo
      intro G a11 w11 hS hH
      have HS11 : Sl a11 65 [(2, .pointer (some ⟨g1_1, 0, none⟩)), (3, .bool false)] := hS
      have HH11 : Held w w11 [⟨g1_0, .u8, 32, lowB1 b, 22⟩, ⟨g1_1, .u64, 20, fun _ => 0, 28⟩, ⟨g4_2, .u64, 5, dy b, 26⟩, ⟨g8_4, .u64, 5, smL 1, 26⟩, ⟨g8_5, .u64, 5, dsq b, 26⟩, ⟨g9_15, .u64, 5, X, 26⟩] := hH
      clear hS hH HS10 HH10
      refine then_ ?_
      refine wp_ret ?_
      repeat refine then_ret ?_
      exact b_row2 rfl HS11.2.1 (HS11.get 0 rfl) (HS11.get 1 rfl) (HH11.row 1 rfl) Tryd.underlying28 rfl infoPt ⟨by rw [decP_n (by unfold decOk; rw [hr1, hr2]; rfl), show decOk b = false by unfold decOk; rw [hr1, hr2]; rfl], HH11.1⟩
    · skip
      cases r3
      · skip
        refine wp_seq ?_
        refine wp_seq ?_
        have hLo : LOk [(0, 44, .val (.bool true)), (1, 45, .val (.bool false)), (2, 46, .val (.bool false)), (3, 47, .val (.bool false)), (4, 48, .val (.bool false)), (5, 49, .val (undef)), (6, 50, .val (undef)), (7, 51, .val (undef)), (8, 52, .val (.bool false)), (9, 53, .val (.bool false))] := ⟨show ([0, 1, 2, 3, 4, 5, 6, 7, 8, 9] : List Nat).Nodup by decide, show ([44, 45, 46, 47, 48, 49, 50, 51, 52, 53] : List Nat).Nodup by decide⟩
        refine plain_ (wE := w) (sz := 65) (n := 10) [0, 1, 3, 7, 15, 31, 63, 127, 255, 511] [(2, .val (.pointer (some ⟨g1_1, 0, none⟩))), (4, .val (.bool false)), (5, .val (.pointer (some ⟨g4_2, 0, none⟩))), (6, .val (.pointer (some ⟨g8_4, 0, none⟩))), (8, .val (.pointer (some ⟨g9_15, 0, none⟩))), (53, .val (.bool false))] [(0, 44, .val (.bool true)), (1, 45, .val (.bool false)), (2, 46, .val (.bool false)), (3, 47, .val (.bool false)), (4, 48, .val (.bool false)), (5, 49, .val (undef)), (6, 50, .val (undef)), (7, 51, .val (undef)), (8, 52, .val (.bool false)), (9, 53, .val (.bool false))] [⟨g1_0, none, none, .u8, 32, lowB1 b, lowB1 b, 22⟩, ⟨g1_1, none, none, .u64, 20, fun _ => 0, fun _ => 0, 28⟩, ⟨g4_2, none, none, .u64, 5, dy b, dy b, 26⟩, ⟨g8_4, none, none, .u64, 5, smL 1, smL 1, 26⟩, ⟨g8_5, none, none, .u64, 5, dsq b, dsq b, 26⟩, ⟨g9_15, none, none, .u64, 5, X, X, 26⟩] rfl (by rfl) HH9 rfl rfl hLo rfl HS9 (slS 0 rfl rfl (slS 1 rfl rfl (slS 2 rfl rfl (slS 3 rfl rfl (slS 4 rfl rfl (slL 9 (d := 9) rfl (trivial))))))) ?_ ?_
        · show ∀ i ∈ [0, 1, 2, 3, 4, 5, 6, 7, 8, 9], _
          refine steps_cons (st_run 0 _ rfl rfl hLo rfl rfl (fun _ _ _ _ => rfl) (fun b G w hb ho => exec_move (.inl rfl) (ev_off rfl (HS9.get 5 rfl)))) ?_
          refine steps_cons (st_run 1 _ rfl rfl hLo rfl rfl (fun _ _ _ _ => rfl) (fun b G w hb ho => exec_un rfl (ev_on hLo 0 rfl HS9.1 rfl (hb 0 (by rfl))) (by rfl))) ?_
          refine steps_cons (st_run 2 _ rfl rfl hLo rfl rfl (fun _ _ _ _ => rfl) (fun b G w hb ho => exec_move (.inl rfl) (ev_on hLo 1 rfl HS9.1 rfl (hb 1 (by rfl))))) ?_
          refine steps_cons (st_run 3 _ rfl rfl hLo rfl rfl (fun b G hb ho => wanted_is rfl rfl rfl HS9.1 rfl (ev_on hLo 2 rfl HS9.1 rfl (hb 2 (by rfl))) rfl) (fun b G w hb ho => exec_move (.inl rfl) (ev_off rfl (HS9.get 1 rfl)))) ?_
          refine steps_cons (st_run 4 _ rfl rfl hLo rfl rfl (fun b G hb ho => wanted_is rfl rfl rfl HS9.1 rfl (ev_on hLo 2 rfl HS9.1 rfl (hb 2 (by rfl))) rfl) (fun b G w hb ho => exec_move (.inl rfl) (ev_on hLo 3 rfl HS9.1 rfl (hb 3 (by rfl))))) ?_
          refine steps_cons (st_skip 5 rfl rfl hLo rfl rfl (fun b G hb ho => wanted_is rfl rfl rfl HS9.1 rfl (ev_on hLo 4 rfl HS9.1 rfl (hb 4 (by rfl))) rfl)) ?_
          refine steps_cons (st_skip 6 rfl rfl hLo rfl rfl (fun b G hb ho => wanted_is rfl rfl rfl HS9.1 rfl (ev_on hLo 4 rfl HS9.1 rfl (hb 4 (by rfl))) rfl)) ?_
          refine steps_cons (st_skip 7 rfl rfl hLo rfl rfl (fun b G hb ho => wanted_is rfl rfl rfl HS9.1 rfl (ev_on hLo 4 rfl HS9.1 rfl (hb 4 (by rfl))) rfl)) ?_
          refine steps_cons (st_run 8 _ rfl rfl hLo rfl rfl (fun b G hb ho => wanted_is rfl rfl rfl HS9.1 rfl (ev_on hLo 2 rfl HS9.1 rfl (hb 2 (by rfl))) rfl) (fun b G w hb ho => exec_pick rfl (ev_on hLo 4 rfl HS9.1 rfl (hb 4 (by rfl))) (rfl))) ?_
          refine steps_cons (st_run 9 _ rfl rfl hLo rfl rfl (fun _ _ _ _ => rfl) (fun b G w hb ho => exec_pick rfl (ev_on hLo 2 rfl HS9.1 rfl (hb 2 (by rfl))) (ev_on hLo 8 rfl HS9.1 rfl (hb 8 (by rfl))))) ?_
          exact steps_nil
        clear hLo
        intro G a12 w12 hS hH
        have HS12 : Sl a12 65 [(2, .pointer (some ⟨g1_1, 0, none⟩)), (4, .bool false), (5, .pointer (some ⟨g4_2, 0, none⟩)), (6, .pointer (some ⟨g8_4, 0, none⟩)), (8, .pointer (some ⟨g9_15, 0, none⟩)), (53, .bool false)] := hS
        have HH12 : Held w w12 [⟨g1_0, .u8, 32, lowB1 b, 22⟩, ⟨g1_1, .u64, 20, fun _ => 0, 28⟩, ⟨g4_2, .u64, 5, dy b, 26⟩, ⟨g8_4, .u64, 5, smL 1, 26⟩, ⟨g8_5, .u64, 5, dsq b, 26⟩, ⟨g9_15, .u64, 5, X, 26⟩] := hH
        clear hS hH HS9 HH9
        refine then_ ?_
        refine wp_cond_false (HS12.get 5 rfl) ?_
        refine wp_skip ?_
        refine then_ ?_
        refine wp_seq ?_
        refine wp_seq ?_
        have hLo : LOk [(0, 55, .val (.bool false))] := ⟨show ([0] : List Nat).Nodup by decide, show ([55] : List Nat).Nodup by decide⟩
        refine plain_ (wE := w) (sz := 65) (n := 1) [0] [(2, .val (.pointer (some ⟨g1_1, 0, none⟩))), (5, .val (.pointer (some ⟨g4_2, 0, none⟩))), (6, .val (.pointer (some ⟨g8_4, 0, none⟩))), (8, .val (.pointer (some ⟨g9_15, 0, none⟩))), (55, .val (.bool false))] [(0, 55, .val (.bool false))] [⟨g1_0, none, none, .u8, 32, lowB1 b, lowB1 b, 22⟩, ⟨g1_1, none, none, .u64, 20, fun _ => 0, fun _ => 0, 28⟩, ⟨g4_2, none, none, .u64, 5, dy b, dy b, 26⟩, ⟨g8_4, none, none, .u64, 5, smL 1, smL 1, 26⟩, ⟨g8_5, none, none, .u64, 5, dsq b, dsq b, 26⟩, ⟨g9_15, none, none, .u64, 5, X, X, 26⟩] rfl (by rfl) HH12 rfl rfl hLo rfl HS12 (slS 0 rfl rfl (slS 2 rfl rfl (slS 3 rfl rfl (slS 4 rfl rfl (slL 0 (d := 0) rfl (trivial)))))) ?_ ?_
        · show ∀ i ∈ [0], _
          refine steps_cons (st_run 0 _ rfl rfl hLo rfl rfl (fun _ _ _ _ => rfl) (fun b G w hb ho => exec_move (.inl rfl) (ev_off rfl (HS12.get 1 rfl)))) ?_
          exact steps_nil
        clear hLo
        intro G a13 w13 hS hH
        have HS13 : Sl a13 65 [(2, .pointer (some ⟨g1_1, 0, none⟩)), (5, .pointer (some ⟨g4_2, 0, none⟩)), (6, .pointer (some ⟨g8_4, 0, none⟩)), (8, .pointer (some ⟨g9_15, 0, none⟩)), (55, .bool false)] := hS
        have HH13 : Held w w13 [⟨g1_0, .u8, 32, lowB1 b, 22⟩, ⟨g1_1, .u64, 20, fun _ => 0, 28⟩, ⟨g4_2, .u64, 5, dy b, 26⟩, ⟨g8_4, .u64, 5, smL 1, 26⟩, ⟨g8_5, .u64, 5, dsq b, 26⟩, ⟨g9_15, .u64, 5, X, 26⟩] := hH
        clear hS hH HS12 HH12
        refine then_ ?_
        refine wp_cond_false (HS13.get 4 rfl) ?_
        refine wp_skip ?_
        refine then_ ?_
        have hok : decOk b = true := by unfold decOk; rw [hr1, hr2, hr3]; rfl
        rw [dx_n hr3 hX] at HH13
        refine wp_seq ?_
        have hLo : LOk [(0, 58, .val (.agg (FR .u64 5 (dx b)))), (1, 59, .val (.agg (FR .u64 5 (dy b)))), (2, 60, .val (.agg (FR .u64 5 (smL 1)))), (3, 61, .val (.agg (FR .u64 5 (dx b)))), (4, 62, .val (.agg (FR .u64 5 (dy b)))), (5, 63, .val (.agg (FR .u64 5 (mulE (dx b) (dy b))))), (6, 64, .val (.agg (FR .u64 20 (pt4 (dx b) (dy b) (smL 1) (mulE (dx b) (dy b)))))), (8, 3, .val (.bool true))] := ⟨show ([0, 1, 2, 3, 4, 5, 6, 8] : List Nat).Nodup by decide, show ([58, 59, 60, 61, 62, 63, 64, 3] : List Nat).Nodup by decide⟩
        refine region_ (wE := w) (sz := 65) (n := 9) (B := [0, 0, 0, 0, 0, 24, 63, 127, 255]) [0, 1, 2, 3, 4, 5, 6, 7, 8] [(2, .val (.pointer (some ⟨g1_1, 0, none⟩))), (3, .val (.bool true))] [(0, 58, .val (.agg (FR .u64 5 (dx b)))), (1, 59, .val (.agg (FR .u64 5 (dy b)))), (2, 60, .val (.agg (FR .u64 5 (smL 1)))), (3, 61, .val (.agg (FR .u64 5 (dx b)))), (4, 62, .val (.agg (FR .u64 5 (dy b)))), (5, 63, .val (.agg (FR .u64 5 (mulE (dx b) (dy b))))), (6, 64, .val (.agg (FR .u64 20 (pt4 (dx b) (dy b) (smL 1) (mulE (dx b) (dy b)))))), (8, 3, .val (.bool true))] [⟨g1_0, none, none, .u8, 32, lowB1 b, lowB1 b, 22⟩, ⟨g1_1, none, some 7, .u64, 20, fun _ => 0, pt4 (dx b) (dy b) (smL 1) (mulE (dx b) (dy b)), 28⟩, ⟨g4_2, none, none, .u64, 5, dy b, dy b, 26⟩, ⟨g8_4, none, none, .u64, 5, smL 1, smL 1, 26⟩, ⟨g8_5, none, none, .u64, 5, dsq b, dsq b, 26⟩, ⟨g9_15, none, none, .u64, 5, dx b, dx b, 26⟩] (by rfl) rfl tabdec_12 bitsdec_12 (by kernel_rfl) (by kernel_rfl) HH13 rfl rfl hLo rfl HS13 (slS 0 rfl rfl (slL 7 (d := 8) rfl (trivial))) ?_ ?_
        · show ∀ i ∈ [0, 1, 2, 3, 4, 5, 6, 7, 8], _
          refine steps_cons (st_row0 0 5 _ rfl rfl rfl rfl (fun _ _ _ _ => rfl) hLo rfl rfl rfl (by rfl) Tryd.underlying26 infoEl rfl (fun b G hb ho => ev_off rfl (HS13.get 3 rfl))) ?_
          refine steps_cons (st_row0 1 2 _ rfl rfl rfl rfl (fun _ _ _ _ => rfl) hLo rfl rfl rfl (by rfl) Tryd.underlying26 infoEl rfl (fun b G hb ho => ev_off rfl (HS13.get 1 rfl))) ?_
          refine steps_cons (st_row0 2 3 _ rfl rfl rfl rfl (fun _ _ _ _ => rfl) hLo rfl rfl rfl (by rfl) Tryd.underlying26 infoEl rfl (fun b G hb ho => ev_off rfl (HS13.get 2 rfl))) ?_
          refine steps_cons (st_row0 3 5 _ rfl rfl rfl rfl (fun _ _ _ _ => rfl) hLo rfl rfl rfl (by rfl) Tryd.underlying26 infoEl rfl (fun b G hb ho => ev_off rfl (HS13.get 3 rfl))) ?_
          refine steps_cons (st_row0 4 2 _ rfl rfl rfl rfl (fun _ _ _ _ => rfl) hLo rfl rfl rfl (by rfl) Tryd.underlying26 infoEl rfl (fun b G hb ho => ev_off rfl (HS13.get 1 rfl))) ?_
          refine steps_cons (st_call 5 _ #[.agg (FR .u64 5 (dx b)), .agg (FR .u64 5 (dy b))] rfl rfl rfl (fun _ _ _ _ => rfl) hLo rfl rfl Tryd.func29 rfl rfl (fun b G hb ho => args2 (ev_on hLo 3 rfl HS13.1 rfl (hb 3 (by rfl))) (ev_on hLo 4 rfl HS13.1 rfl (hb 4 (by rfl)))) (fun w hw => elem_mul_calls _ _ w (dx_Lm hb) (dy_Lm hb))) ?_
          refine steps_cons (st_run 6 _ rfl rfl hLo rfl rfl (fun _ _ _ _ => rfl) (fun b G w hb ho => exec_build rfl (parts4 (ev_on hLo 0 rfl HS13.1 rfl (hb 0 (by rfl))) (ev_on hLo 1 rfl HS13.1 rfl (hb 1 (by rfl))) (ev_on hLo 2 rfl HS13.1 rfl (hb 2 (by rfl))) (ev_on hLo 5 rfl HS13.1 rfl (hb 5 (by rfl)))) (build_pt _ _ _ _ _))) ?_
          refine steps_cons (st_store 1 _ rfl rfl rfl rfl rfl (fun _ _ _ _ => rfl) rfl rfl rfl (by rfl) infoPt (fun b G hb ho => ev_off rfl (HS13.get 0 rfl)) (fun b G hb ho => ev_on hLo 6 rfl HS13.1 rfl (hb 6 (by rfl)))) ?_
          refine steps_cons (st_run 7 _ rfl rfl hLo rfl rfl (fun _ _ _ _ => rfl) (fun b G w hb ho => exec_move (.inr rfl) (rfl))) ?_
          exact steps_nil
        clear hLo
        intro G a14 w14 hS hH
        have HS14 : Sl a14 65 [(2, .pointer (some ⟨g1_1, 0, none⟩)), (3, .bool true)] := hS
        have HH14 : Held w w14 [⟨g1_0, .u8, 32, lowB1 b, 22⟩, ⟨g1_1, .u64, 20, pt4 (dx b) (dy b) (smL 1) (mulE (dx b) (dy b)), 28⟩, ⟨g4_2, .u64, 5, dy b, 26⟩, ⟨g8_4, .u64, 5, smL 1, 26⟩, ⟨g8_5, .u64, 5, dsq b, 26⟩, ⟨g9_15, .u64, 5, dx b, 26⟩] := hH
        clear hS hH HS13 HH13
        refine then_ ?_
        refine wp_ret ?_
        repeat refine then_ret ?_
        exact b_row2 rfl HS14.2.1 (HS14.get 0 rfl) (HS14.get 1 rfl) (HH14.row 1 rfl) Tryd.underlying28 rfl infoPt ⟨by rw [decP_y hok, hok], HH14.1⟩
      · skip
        cases r4
        · skip
          refine wp_seq ?_
          refine wp_seq ?_
          have hLo : LOk [(0, 44, .val (.bool true)), (1, 45, .val (.bool false)), (2, 46, .val (.bool false)), (3, 47, .val (.bool true)), (4, 48, .val (.bool true)), (5, 49, .val (.agg (FR .u64 5 (X)))), (6, 50, .val (.agg (FR .u64 5 (fun _ => 0)))), (7, 51, .val (.bool false)), (8, 52, .val (.bool false)), (9, 53, .val (.bool false))] := ⟨show ([0, 1, 2, 3, 4, 5, 6, 7, 8, 9] : List Nat).Nodup by decide, show ([44, 45, 46, 47, 48, 49, 50, 51, 52, 53] : List Nat).Nodup by decide⟩
          refine plain_ (wE := w) (sz := 65) (n := 10) [0, 1, 3, 7, 15, 31, 63, 127, 255, 511] [(2, .val (.pointer (some ⟨g1_1, 0, none⟩))), (4, .val (.bool true)), (5, .val (.pointer (some ⟨g4_2, 0, none⟩))), (6, .val (.pointer (some ⟨g8_4, 0, none⟩))), (8, .val (.pointer (some ⟨g9_15, 0, none⟩))), (53, .val (.bool false))] [(0, 44, .val (.bool true)), (1, 45, .val (.bool false)), (2, 46, .val (.bool false)), (3, 47, .val (.bool true)), (4, 48, .val (.bool true)), (5, 49, .val (.agg (FR .u64 5 (X)))), (6, 50, .val (.agg (FR .u64 5 (fun _ => 0)))), (7, 51, .val (.bool false)), (8, 52, .val (.bool false)), (9, 53, .val (.bool false))] [⟨g1_0, none, none, .u8, 32, lowB1 b, lowB1 b, 22⟩, ⟨g1_1, none, none, .u64, 20, fun _ => 0, fun _ => 0, 28⟩, ⟨g4_2, none, none, .u64, 5, dy b, dy b, 26⟩, ⟨g8_4, none, none, .u64, 5, smL 1, smL 1, 26⟩, ⟨g8_5, none, none, .u64, 5, dsq b, dsq b, 26⟩, ⟨g9_15, none, none, .u64, 5, X, X, 26⟩] rfl (by rfl) HH9 rfl rfl hLo rfl HS9 (slS 0 rfl rfl (slS 1 rfl rfl (slS 2 rfl rfl (slS 3 rfl rfl (slS 4 rfl rfl (slL 9 (d := 9) rfl (trivial))))))) ?_ ?_
          · show ∀ i ∈ [0, 1, 2, 3, 4, 5, 6, 7, 8, 9], _
            refine steps_cons (st_run 0 _ rfl rfl hLo rfl rfl (fun _ _ _ _ => rfl) (fun b G w hb ho => exec_move (.inl rfl) (ev_off rfl (HS9.get 5 rfl)))) ?_
            refine steps_cons (st_run 1 _ rfl rfl hLo rfl rfl (fun _ _ _ _ => rfl) (fun b G w hb ho => exec_un rfl (ev_on hLo 0 rfl HS9.1 rfl (hb 0 (by rfl))) (by rfl))) ?_
            refine steps_cons (st_run 2 _ rfl rfl hLo rfl rfl (fun _ _ _ _ => rfl) (fun b G w hb ho => exec_move (.inl rfl) (ev_on hLo 1 rfl HS9.1 rfl (hb 1 (by rfl))))) ?_
            refine steps_cons (st_run 3 _ rfl rfl hLo rfl rfl (fun b G hb ho => wanted_is rfl rfl rfl HS9.1 rfl (ev_on hLo 2 rfl HS9.1 rfl (hb 2 (by rfl))) rfl) (fun b G w hb ho => exec_move (.inl rfl) (ev_off rfl (HS9.get 1 rfl)))) ?_
            refine steps_cons (st_run 4 _ rfl rfl hLo rfl rfl (fun b G hb ho => wanted_is rfl rfl rfl HS9.1 rfl (ev_on hLo 2 rfl HS9.1 rfl (hb 2 (by rfl))) rfl) (fun b G w hb ho => exec_move (.inl rfl) (ev_on hLo 3 rfl HS9.1 rfl (hb 3 (by rfl))))) ?_
            refine steps_cons (st_row0 5 5 _ rfl rfl rfl rfl (fun b G hb ho => wanted_is rfl rfl rfl HS9.1 rfl (ev_on hLo 4 rfl HS9.1 rfl (hb 4 (by rfl))) rfl) hLo rfl rfl rfl (by rfl) Tryd.underlying26 infoEl rfl (fun b G hb ho => ev_off rfl (HS9.get 4 rfl))) ?_
            refine steps_cons (st_run 6 _ rfl rfl hLo rfl rfl (fun b G hb ho => wanted_is rfl rfl rfl HS9.1 rfl (ev_on hLo 4 rfl HS9.1 rfl (hb 4 (by rfl))) rfl) (fun b G w hb ho => exec_build rfl (parts0 ) (by kernel_rfl))) ?_
            refine steps_cons (st_call 7 _ #[.agg (FR .u64 5 (X)), .agg (FR .u64 5 (fun _ => 0))] rfl rfl rfl (fun b G hb ho => wanted_is rfl rfl rfl HS9.1 rfl (ev_on hLo 4 rfl HS9.1 rfl (hb 4 (by rfl))) rfl) hLo rfl rfl Tryd.func36 rfl rfl (fun b G hb ho => args2 (ev_on hLo 5 rfl HS9.1 rfl (hb 5 (by rfl))) (ev_on hLo 6 rfl HS9.1 rfl (hb 6 (by rfl)))) (fun w hw => is_r hXl Fe.zero.1 hr5 w)) ?_
            refine steps_cons (st_run 8 _ rfl rfl hLo rfl rfl (fun b G hb ho => wanted_is rfl rfl rfl HS9.1 rfl (ev_on hLo 2 rfl HS9.1 rfl (hb 2 (by rfl))) rfl) (fun b G w hb ho => exec_pick rfl (ev_on hLo 4 rfl HS9.1 rfl (hb 4 (by rfl))) (ev_on hLo 7 rfl HS9.1 rfl (hb 7 (by rfl))))) ?_
            refine steps_cons (st_run 9 _ rfl rfl hLo rfl rfl (fun _ _ _ _ => rfl) (fun b G w hb ho => exec_pick rfl (ev_on hLo 2 rfl HS9.1 rfl (hb 2 (by rfl))) (ev_on hLo 8 rfl HS9.1 rfl (hb 8 (by rfl))))) ?_
            exact steps_nil
          clear hLo
          intro G a15 w15 hS hH
          have HS15 : Sl a15 65 [(2, .pointer (some ⟨g1_1, 0, none⟩)), (4, .bool true), (5, .pointer (some ⟨g4_2, 0, none⟩)), (6, .pointer (some ⟨g8_4, 0, none⟩)), (8, .pointer (some ⟨g9_15, 0, none⟩)), (53, .bool false)] := hS
          have HH15 : Held w w15 [⟨g1_0, .u8, 32, lowB1 b, 22⟩, ⟨g1_1, .u64, 20, fun _ => 0, 28⟩, ⟨g4_2, .u64, 5, dy b, 26⟩, ⟨g8_4, .u64, 5, smL 1, 26⟩, ⟨g8_5, .u64, 5, dsq b, 26⟩, ⟨g9_15, .u64, 5, X, 26⟩] := hH
          clear hS hH HS9 HH9
          refine then_ ?_
          refine wp_cond_false (HS15.get 5 rfl) ?_
          refine wp_skip ?_
          refine then_ ?_
          refine wp_seq ?_
          refine wp_seq ?_
          have hLo : LOk [(0, 55, .val (.bool true))] := ⟨show ([0] : List Nat).Nodup by decide, show ([55] : List Nat).Nodup by decide⟩
          refine plain_ (wE := w) (sz := 65) (n := 1) [0] [(2, .val (.pointer (some ⟨g1_1, 0, none⟩))), (5, .val (.pointer (some ⟨g4_2, 0, none⟩))), (6, .val (.pointer (some ⟨g8_4, 0, none⟩))), (8, .val (.pointer (some ⟨g9_15, 0, none⟩))), (55, .val (.bool true))] [(0, 55, .val (.bool true))] [⟨g1_0, none, none, .u8, 32, lowB1 b, lowB1 b, 22⟩, ⟨g1_1, none, none, .u64, 20, fun _ => 0, fun _ => 0, 28⟩, ⟨g4_2, none, none, .u64, 5, dy b, dy b, 26⟩, ⟨g8_4, none, none, .u64, 5, smL 1, smL 1, 26⟩, ⟨g8_5, none, none, .u64, 5, dsq b, dsq b, 26⟩, ⟨g9_15, none, none, .u64, 5, X, X, 26⟩] rfl (by rfl) HH15 rfl rfl hLo rfl HS15 (slS 0 rfl rfl (slS 2 rfl rfl (slS 3 rfl rfl (slS 4 rfl rfl (slL 0 (d := 0) rfl (trivial)))))) ?_ ?_
          · show ∀ i ∈ [0], _
            refine steps_cons (st_run 0 _ rfl rfl hLo rfl rfl (fun _ _ _ _ => rfl) (fun b G w hb ho => exec_move (.inl rfl) (ev_off rfl (HS15.get 1 rfl)))) ?_
            exact steps_nil
          clear hLo
          intro G a16 w16 hS hH
          have HS16 : Sl a16 65 [(2, .pointer (some ⟨g1_1, 0, none⟩)), (5, .pointer (some ⟨g4_2, 0, none⟩)), (6, .pointer (some ⟨g8_4, 0, none⟩)), (8, .pointer (some ⟨g9_15, 0, none⟩)), (55, .bool true)] := hS
          have HH16 : Held w w16 [⟨g1_0, .u8, 32, lowB1 b, 22⟩, ⟨g1_1, .u64, 20, fun _ => 0, 28⟩, ⟨g4_2, .u64, 5, dy b, 26⟩, ⟨g8_4, .u64, 5, smL 1, 26⟩, ⟨g8_5, .u64, 5, dsq b, 26⟩, ⟨g9_15, .u64, 5, X, 26⟩] := hH
          clear hS hH HS15 HH15
          refine then_ ?_
          refine wp_cond_true (HS16.get 4 rfl) ?_
          have hLo : LOk [(0, 56, .val (.agg (FR .u64 5 (X)))), (1, 57, .val (.agg (FR .u64 5 (negE (X)))))] := ⟨show ([0, 1] : List Nat).Nodup by decide, show ([56, 57] : List Nat).Nodup by decide⟩
          refine plain_ (wE := w) (sz := 65) (n := 3) [0, 1, 3] [(2, .val (.pointer (some ⟨g1_1, 0, none⟩))), (5, .val (.pointer (some ⟨g4_2, 0, none⟩))), (6, .val (.pointer (some ⟨g8_4, 0, none⟩))), (8, .val (.pointer (some ⟨g9_15, 0, none⟩)))] [(0, 56, .val (.agg (FR .u64 5 (X)))), (1, 57, .val (.agg (FR .u64 5 (negE (X)))))] [⟨g1_0, none, none, .u8, 32, lowB1 b, lowB1 b, 22⟩, ⟨g1_1, none, none, .u64, 20, fun _ => 0, fun _ => 0, 28⟩, ⟨g4_2, none, none, .u64, 5, dy b, dy b, 26⟩, ⟨g8_4, none, none, .u64, 5, smL 1, smL 1, 26⟩, ⟨g8_5, none, none, .u64, 5, dsq b, dsq b, 26⟩, ⟨g9_15, none, some 2, .u64, 5, X, negE (X), 26⟩] rfl (by rfl) HH16 rfl rfl hLo rfl HS16 (slS 0 rfl rfl (slS 1 rfl rfl (slS 2 rfl rfl (slS 3 rfl rfl (trivial))))) ?_ ?_
          · show ∀ i ∈ [0, 1, 2], _
            refine steps_cons (st_row0 0 5 _ rfl rfl rfl rfl (fun _ _ _ _ => rfl) hLo rfl rfl rfl (by rfl) Tryd.underlying26 infoEl rfl (fun b G hb ho => ev_off rfl (HS16.get 3 rfl))) ?_
            refine steps_cons (st_call 1 _ #[.agg (FR .u64 5 (X))] rfl rfl rfl (fun _ _ _ _ => rfl) hLo rfl rfl Tryd.func37 rfl rfl (fun b G hb ho => args1 (ev_on hLo 0 rfl HS16.1 rfl (hb 0 (by rfl)))) (fun w hw => negE_c _ w hXl)) ?_
            refine steps_cons (st_store 5 _ rfl rfl rfl rfl rfl (fun _ _ _ _ => rfl) rfl rfl rfl (by rfl) infoEl (fun b G hb ho => ev_off rfl (HS16.get 3 rfl)) (fun b G hb ho => ev_on hLo 1 rfl HS16.1 rfl (hb 1 (by rfl)))) ?_
            exact steps_nil
          clear hLo
          intro G a17 w17 hS hH
          have HS17 : Sl a17 65 [(2, .pointer (some ⟨g1_1, 0, none⟩)), (5, .pointer (some ⟨g4_2, 0, none⟩)), (6, .pointer (some ⟨g8_4, 0, none⟩)), (8, .pointer (some ⟨g9_15, 0, none⟩))] := hS
          have HH17 : Held w w17 [⟨g1_0, .u8, 32, lowB1 b, 22⟩, ⟨g1_1, .u64, 20, fun _ => 0, 28⟩, ⟨g4_2, .u64, 5, dy b, 26⟩, ⟨g8_4, .u64, 5, smL 1, 26⟩, ⟨g8_5, .u64, 5, dsq b, 26⟩, ⟨g9_15, .u64, 5, negE (X), 26⟩] := hH
          clear hS hH HS16 HH16
          refine then_ ?_
          have hok : decOk b = true := by unfold decOk; rw [hr1, hr2, hr3, hr4]; rfl
          rw [dx_y hr3 hX] at HH17
          refine wp_seq ?_
          have hLo : LOk [(0, 58, .val (.agg (FR .u64 5 (dx b)))), (1, 59, .val (.agg (FR .u64 5 (dy b)))), (2, 60, .val (.agg (FR .u64 5 (smL 1)))), (3, 61, .val (.agg (FR .u64 5 (dx b)))), (4, 62, .val (.agg (FR .u64 5 (dy b)))), (5, 63, .val (.agg (FR .u64 5 (mulE (dx b) (dy b))))), (6, 64, .val (.agg (FR .u64 20 (pt4 (dx b) (dy b) (smL 1) (mulE (dx b) (dy b)))))), (8, 3, .val (.bool true))] := ⟨show ([0, 1, 2, 3, 4, 5, 6, 8] : List Nat).Nodup by decide, show ([58, 59, 60, 61, 62, 63, 64, 3] : List Nat).Nodup by decide⟩
          refine region_ (wE := w) (sz := 65) (n := 9) (B := [0, 0, 0, 0, 0, 24, 63, 127, 255]) [0, 1, 2, 3, 4, 5, 6, 7, 8] [(2, .val (.pointer (some ⟨g1_1, 0, none⟩))), (3, .val (.bool true))] [(0, 58, .val (.agg (FR .u64 5 (dx b)))), (1, 59, .val (.agg (FR .u64 5 (dy b)))), (2, 60, .val (.agg (FR .u64 5 (smL 1)))), (3, 61, .val (.agg (FR .u64 5 (dx b)))), (4, 62, .val (.agg (FR .u64 5 (dy b)))), (5, 63, .val (.agg (FR .u64 5 (mulE (dx b) (dy b))))), (6, 64, .val (.agg (FR .u64 20 (pt4 (dx b) (dy b) (smL 1) (mulE (dx b) (dy b)))))), (8, 3, .val (.bool true))] [⟨g1_0, none, none, .u8, 32, lowB1 b, lowB1 b, 22⟩, ⟨g1_1, none, some 7, .u64, 20, fun _ => 0, pt4 (dx b) (dy b) (smL 1) (mulE (dx b) (dy b)), 28⟩, ⟨g4_2, none, none, .u64, 5, dy b, dy b, 26⟩, ⟨g8_4, none, none, .u64, 5, smL 1, smL 1, 26⟩, ⟨g8_5, none, none, .u64, 5, dsq b, dsq b, 26⟩, ⟨g9_15, none, none, .u64, 5, dx b, dx b, 26⟩] (by rfl) rfl tabdec_12 bitsdec_12 (by kernel_rfl) (by kernel_rfl) HH17 rfl rfl hLo rfl HS17 (slS 0 rfl rfl (slL 7 (d := 8) rfl (trivial))) ?_ ?_
          · show ∀ i ∈ [0, 1, 2, 3, 4, 5, 6, 7, 8], _
            refine steps_cons (st_row0 0 5 _ rfl rfl rfl rfl (fun _ _ _ _ => rfl) hLo rfl rfl rfl (by rfl) Tryd.underlying26 infoEl rfl (fun b G hb ho => ev_off rfl (HS17.get 3 rfl))) ?_
            refine steps_cons (st_row0 1 2 _ rfl rfl rfl rfl (fun _ _ _ _ => rfl) hLo rfl rfl rfl (by rfl) Tryd.underlying26 infoEl rfl (fun b G hb ho => ev_off rfl (HS17.get 1 rfl))) ?_
            refine steps_cons (st_row0 2 3 _ rfl rfl rfl rfl (fun _ _ _ _ => rfl) hLo rfl rfl rfl (by rfl) Tryd.underlying26 infoEl rfl (fun b G hb ho => ev_off rfl (HS17.get 2 rfl))) ?_
            refine steps_cons (st_row0 3 5 _ rfl rfl rfl rfl (fun _ _ _ _ => rfl) hLo rfl rfl rfl (by rfl) Tryd.underlying26 infoEl rfl (fun b G hb ho => ev_off rfl (HS17.get 3 rfl))) ?_
            refine steps_cons (st_row0 4 2 _ rfl rfl rfl rfl (fun _ _ _ _ => rfl) hLo rfl rfl rfl (by rfl) Tryd.underlying26 infoEl rfl (fun b G hb ho => ev_off rfl (HS17.get 1 rfl))) ?_
            refine steps_cons (st_call 5 _ #[.agg (FR .u64 5 (dx b)), .agg (FR .u64 5 (dy b))] rfl rfl rfl (fun _ _ _ _ => rfl) hLo rfl rfl Tryd.func29 rfl rfl (fun b G hb ho => args2 (ev_on hLo 3 rfl HS17.1 rfl (hb 3 (by rfl))) (ev_on hLo 4 rfl HS17.1 rfl (hb 4 (by rfl)))) (fun w hw => elem_mul_calls _ _ w (dx_Lm hb) (dy_Lm hb))) ?_
            refine steps_cons (st_run 6 _ rfl rfl hLo rfl rfl (fun _ _ _ _ => rfl) (fun b G w hb ho => exec_build rfl (parts4 (ev_on hLo 0 rfl HS17.1 rfl (hb 0 (by rfl))) (ev_on hLo 1 rfl HS17.1 rfl (hb 1 (by rfl))) (ev_on hLo 2 rfl HS17.1 rfl (hb 2 (by rfl))) (ev_on hLo 5 rfl HS17.1 rfl (hb 5 (by rfl)))) (build_pt _ _ _ _ _))) ?_
            refine steps_cons (st_store 1 _ rfl rfl rfl rfl rfl (fun _ _ _ _ => rfl) rfl rfl rfl (by rfl) infoPt (fun b G hb ho => ev_off rfl (HS17.get 0 rfl)) (fun b G hb ho => ev_on hLo 6 rfl HS17.1 rfl (hb 6 (by rfl)))) ?_
            refine steps_cons (st_run 7 _ rfl rfl hLo rfl rfl (fun _ _ _ _ => rfl) (fun b G w hb ho => exec_move (.inr rfl) (rfl))) ?_
            exact steps_nil
          clear hLo
          intro G a18 w18 hS hH
          have HS18 : Sl a18 65 [(2, .pointer (some ⟨g1_1, 0, none⟩)), (3, .bool true)] := hS
          have HH18 : Held w w18 [⟨g1_0, .u8, 32, lowB1 b, 22⟩, ⟨g1_1, .u64, 20, pt4 (dx b) (dy b) (smL 1) (mulE (dx b) (dy b)), 28⟩, ⟨g4_2, .u64, 5, dy b, 26⟩, ⟨g8_4, .u64, 5, smL 1, 26⟩, ⟨g8_5, .u64, 5, dsq b, 26⟩, ⟨g9_15, .u64, 5, dx b, 26⟩] := hH
          clear hS hH HS17 HH17
          refine then_ ?_
          refine wp_ret ?_
          repeat refine then_ret ?_
          exact b_row2 rfl HS18.2.1 (HS18.get 0 rfl) (HS18.get 1 rfl) (HH18.row 1 rfl) Tryd.underlying28 rfl infoPt ⟨by rw [decP_y hok, hok], HH18.1⟩
        · skip
          refine wp_seq ?_
          refine wp_seq ?_
          have hLo : LOk [(0, 44, .val (.bool true)), (1, 45, .val (.bool false)), (2, 46, .val (.bool false)), (3, 47, .val (.bool true)), (4, 48, .val (.bool true)), (5, 49, .val (.agg (FR .u64 5 (X)))), (6, 50, .val (.agg (FR .u64 5 (fun _ => 0)))), (7, 51, .val (.bool true)), (8, 52, .val (.bool true)), (9, 53, .val (.bool true))] := ⟨show ([0, 1, 2, 3, 4, 5, 6, 7, 8, 9] : List Nat).Nodup by decide, show ([44, 45, 46, 47, 48, 49, 50, 51, 52, 53] : List Nat).Nodup by decide⟩
          refine plain_ (wE := w) (sz := 65) (n := 10) [0, 1, 3, 7, 15, 31, 63, 127, 255, 511] [(2, .val (.pointer (some ⟨g1_1, 0, none⟩))), (53, .val (.bool true))] [(0, 44, .val (.bool true)), (1, 45, .val (.bool false)), (2, 46, .val (.bool false)), (3, 47, .val (.bool true)), (4, 48, .val (.bool true)), (5, 49, .val (.agg (FR .u64 5 (X)))), (6, 50, .val (.agg (FR .u64 5 (fun _ => 0)))), (7, 51, .val (.bool true)), (8, 52, .val (.bool true)), (9, 53, .val (.bool true))] [⟨g1_0, none, none, .u8, 32, lowB1 b, lowB1 b, 22⟩, ⟨g1_1, none, none, .u64, 20, fun _ => 0, fun _ => 0, 28⟩, ⟨g4_2, none, none, .u64, 5, dy b, dy b, 26⟩, ⟨g8_4, none, none, .u64, 5, smL 1, smL 1, 26⟩, ⟨g8_5, none, none, .u64, 5, dsq b, dsq b, 26⟩, ⟨g9_15, none, none, .u64, 5, X, X, 26⟩] rfl (by rfl) HH9 rfl rfl hLo rfl HS9 (slS 0 rfl rfl (slL 9 (d := 9) rfl (trivial))) ?_ ?_
          · show ∀ i ∈ [0, 1, 2, 3, 4, 5, 6, 7, 8, 9], _
            refine steps_cons (st_run 0 _ rfl rfl hLo rfl rfl (fun _ _ _ _ => rfl) (fun b G w hb ho => exec_move (.inl rfl) (ev_off rfl (HS9.get 5 rfl)))) ?_
            refine steps_cons (st_run 1 _ rfl rfl hLo rfl rfl (fun _ _ _ _ => rfl) (fun b G w hb ho => exec_un rfl (ev_on hLo 0 rfl HS9.1 rfl (hb 0 (by rfl))) (by rfl))) ?_
            refine steps_cons (st_run 2 _ rfl rfl hLo rfl rfl (fun _ _ _ _ => rfl) (fun b G w hb ho => exec_move (.inl rfl) (ev_on hLo 1 rfl HS9.1 rfl (hb 1 (by rfl))))) ?_
            refine steps_cons (st_run 3 _ rfl rfl hLo rfl rfl (fun b G hb ho => wanted_is rfl rfl rfl HS9.1 rfl (ev_on hLo 2 rfl HS9.1 rfl (hb 2 (by rfl))) rfl) (fun b G w hb ho => exec_move (.inl rfl) (ev_off rfl (HS9.get 1 rfl)))) ?_
            refine steps_cons (st_run 4 _ rfl rfl hLo rfl rfl (fun b G hb ho => wanted_is rfl rfl rfl HS9.1 rfl (ev_on hLo 2 rfl HS9.1 rfl (hb 2 (by rfl))) rfl) (fun b G w hb ho => exec_move (.inl rfl) (ev_on hLo 3 rfl HS9.1 rfl (hb 3 (by rfl))))) ?_
            refine steps_cons (st_row0 5 5 _ rfl rfl rfl rfl (fun b G hb ho => wanted_is rfl rfl rfl HS9.1 rfl (ev_on hLo 4 rfl HS9.1 rfl (hb 4 (by rfl))) rfl) hLo rfl rfl rfl (by rfl) Tryd.underlying26 infoEl rfl (fun b G hb ho => ev_off rfl (HS9.get 4 rfl))) ?_
            refine steps_cons (st_run 6 _ rfl rfl hLo rfl rfl (fun b G hb ho => wanted_is rfl rfl rfl HS9.1 rfl (ev_on hLo 4 rfl HS9.1 rfl (hb 4 (by rfl))) rfl) (fun b G w hb ho => exec_build rfl (parts0 ) (by kernel_rfl))) ?_
            refine steps_cons (st_call 7 _ #[.agg (FR .u64 5 (X)), .agg (FR .u64 5 (fun _ => 0))] rfl rfl rfl (fun b G hb ho => wanted_is rfl rfl rfl HS9.1 rfl (ev_on hLo 4 rfl HS9.1 rfl (hb 4 (by rfl))) rfl) hLo rfl rfl Tryd.func36 rfl rfl (fun b G hb ho => args2 (ev_on hLo 5 rfl HS9.1 rfl (hb 5 (by rfl))) (ev_on hLo 6 rfl HS9.1 rfl (hb 6 (by rfl)))) (fun w hw => is_r hXl Fe.zero.1 hr5 w)) ?_
            refine steps_cons (st_run 8 _ rfl rfl hLo rfl rfl (fun b G hb ho => wanted_is rfl rfl rfl HS9.1 rfl (ev_on hLo 2 rfl HS9.1 rfl (hb 2 (by rfl))) rfl) (fun b G w hb ho => exec_pick rfl (ev_on hLo 4 rfl HS9.1 rfl (hb 4 (by rfl))) (ev_on hLo 7 rfl HS9.1 rfl (hb 7 (by rfl))))) ?_
            refine steps_cons (st_run 9 _ rfl rfl hLo rfl rfl (fun _ _ _ _ => rfl) (fun b G w hb ho => exec_pick rfl (ev_on hLo 2 rfl HS9.1 rfl (hb 2 (by rfl))) (ev_on hLo 8 rfl HS9.1 rfl (hb 8 (by rfl))))) ?_
            exact steps_nil
          clear hLo
          intro G a19 w19 hS hH
          have HS19 : Sl a19 65 [(2, .pointer (some ⟨g1_1, 0, none⟩)), (53, .bool true)] := hS
          have HH19 : Held w w19 [⟨g1_0, .u8, 32, lowB1 b, 22⟩, ⟨g1_1, .u64, 20, fun _ => 0, 28⟩, ⟨g4_2, .u64, 5, dy b, 26⟩, ⟨g8_4, .u64, 5, smL 1, 26⟩, ⟨g8_5, .u64, 5, dsq b, 26⟩, ⟨g9_15, .u64, 5, X, 26⟩] := hH
          clear hS hH HS9 HH9
          refine then_ ?_
          refine wp_cond_true (HS19.get 1 rfl) ?_
          refine wp_seq ?_
          have hLo : LOk [(0, 54, .val (.agg (FR .u64 20 (fun _ => 0)))), (2, 3, .val (.bool false))] := ⟨show ([0, 2] : List Nat).Nodup by decide, show ([54, 3] : List Nat).Nodup by decide⟩
          refine plain_ (wE := w) (sz := 65) (n := 3) [0, 1, 3] [(2, .val (.pointer (some ⟨g1_1, 0, none⟩))), (3, .val (.bool false))] [(0, 54, .val (.agg (FR .u64 20 (fun _ => 0)))), (2, 3, .val (.bool false))] [⟨g1_0, none, none, .u8, 32, lowB1 b, lowB1 b, 22⟩, ⟨g1_1, none, some 1, .u64, 20, fun _ => 0, fun _ => 0, 28⟩, ⟨g4_2, none, none, .u64, 5, dy b, dy b, 26⟩, ⟨g8_4, none, none, .u64, 5, smL 1, smL 1, 26⟩, ⟨g8_5, none, none, .u64, 5, dsq b, dsq b, 26⟩, ⟨g9_15, none, none, .u64, 5, X, X, 26⟩] rfl (by rfl) HH19 rfl rfl hLo rfl HS19 (slS 0 rfl rfl (slL 1 (d := 2) rfl (trivial))) ?_ ?_
          · show ∀ i ∈ [0, 1, 2], _
            refine steps_cons (st_run 0 _ rfl rfl hLo rfl rfl (fun _ _ _ _ => rfl) (fun b G w hb ho => exec_build rfl (parts0 ) (by kernel_rfl))) ?_
            refine steps_cons (st_store 1 _ rfl rfl rfl rfl rfl (fun _ _ _ _ => rfl) rfl rfl rfl (by rfl) infoPt (fun b G hb ho => ev_off rfl (HS19.get 0 rfl)) (fun b G hb ho => ev_on hLo 0 rfl HS19.1 rfl (hb 0 (by rfl)))) ?_
            refine steps_cons (st_run 1 _ rfl rfl hLo rfl rfl (fun _ _ _ _ => rfl) (fun b G w hb ho => exec_move (.inr rfl) (rfl))) ?_
            exact steps_nil
          clear hLo
          intro G a20 w20 hS hH
          have HS20 : Sl a20 65 [(2, .pointer (some ⟨g1_1, 0, none⟩)), (3, .bool false)] := hS
          have HH20 : Held w w20 [⟨g1_0, .u8, 32, lowB1 b, 22⟩, ⟨g1_1, .u64, 20, fun _ => 0, 28⟩, ⟨g4_2, .u64, 5, dy b, 26⟩, ⟨g8_4, .u64, 5, smL 1, 26⟩, ⟨g8_5, .u64, 5, dsq b, 26⟩, ⟨g9_15, .u64, 5, X, 26⟩] := hH
          clear hS hH HS19 HH19
          refine then_ ?_
          refine wp_ret ?_
          repeat refine then_ret ?_
          exact b_row2 rfl HS20.2.1 (HS20.get 0 rfl) (HS20.get 1 rfl) (HH20.row 1 rfl) Tryd.underlying28 rfl infoPt ⟨by rw [decP_n (by unfold decOk; rw [hr1, hr2, hr3, hr4]; rfl), show decOk b = false by unfold decOk; rw [hr1, hr2, hr3, hr4]; rfl], HH20.1⟩
end Go.Proofs.YtaaipbhfikefaaaDoor.P
end

section
namespace Go.Proofs.YtaaipbhfikefaaaDoor.P
set_option linter.unusedVariables false
set_option linter.unusedSimpArgs false
open Go.RowKit Go.ChangeShapes Go.WideShapes Go.Proofs.YtaaipbhfikefaaaDoorW.PrintWords Go.Proofs.YtaaipbhfikefaaaDoorW.PrintLast Go.Proofs.YtaaipbhfikefaaaDoorW.PrintMore
open Go.Proofs.YtaaipbhfikefaaaDoor.P.Fd
theorem geq_run {x c : Int} {k : IntKind} {t : TypeId} {r : Bool} (h : decide (c ≤ x) = r) (w : World) (p q : Operand) : (do eqGuard .geq t p q (.int k x) (.int k c); binOp .geq t (.int k x) (.int k c) : Sem Value).run Tryd.prog w = .ok (.bool r) w := by subst h; go_simp
def lowR (b : Nat → Int) : Nat → Int := upd b 31 (b 31 % 128)
theorem lowR_By {b : Nat → Int} (hb : By b) : By (lowR b) := fun j hj => by
  have := hb j hj
  unfold lowR upd
  split
  · have := hb 31 (by omega); omega
  · exact this
def ry (b : Nat → Int) : Nat → Int := numD (lowR b)
theorem oneR_Rn : Rn oneR := (Re.small 1 (by omega)).1
def rsq (b : Nat → Int) : Nat → Int := mulR (ry b) (ry b)
def rup (b : Nat → Int) : Nat → Int := subR (rsq b) oneR
def rdn (b : Nat → Int) : Nat → Int := addR (mulR dR (rsq b)) oneR
def rq (b : Nat → Int) : Nat → Int := mulR (rup b) (invR (rdn b))
def rx0 (b : Nat → Int) : Nat → Int := rtR (rq b) (V16 (rq b))
def rodd (b : Nat → Int) : Bool := decide (128 ≤ b 31)
def rx (b : Nat → Int) : Nat → Int := if rodd b then subR (fun _ => 0) (rx0 b) else rx0 b
end Go.Proofs.YtaaipbhfikefaaaDoor.P
end

section
namespace Go.Proofs.YtaaipbhfikefaaaDoor.P
set_option linter.unusedVariables false
set_option linter.unusedSimpArgs false
open Go.RowKit Go.ChangeShapes Go.WideShapes Go.Proofs.YtaaipbhfikefaaaDoorW.PrintWords Go.Proofs.YtaaipbhfikefaaaDoorW.PrintLast Go.Proofs.YtaaipbhfikefaaaDoorW.PrintMore
open Go.Proofs.YtaaipbhfikefaaaDoor.P.Fd
def yR' (F : Nat → Int) : Nat → Int := mulR (co F 16) (invR (co F 32))
def xR' (F : Nat → Int) : Nat → Int := mulR (co F 0) (invR (co F 32))
def yRB (F : Nat → Int) : Nat → Int := dig 256 (V16 (yR' F) % PP)
def oddR (F : Nat → Int) : Bool := decide (V16 (xR' F) % PP % 2 = 1)
def bytesRP (F : Nat → Int) : Nat → Int := if oddR F then upd (yRB F) 31 ((yRB F 31 + 128) % 256) else yRB F
end Go.Proofs.YtaaipbhfikefaaaDoor.P
end

section
namespace Go.Proofs.YtaaipbhfikefaaaDoor.P
set_option linter.unusedVariables false
set_option linter.unusedSimpArgs false
open Go.RowKit Go.ChangeShapes Go.WideShapes Go.Proofs.YtaaipbhfikefaaaDoorW.PrintWords Go.Proofs.YtaaipbhfikefaaaDoorW.PrintLast Go.Proofs.YtaaipbhfikefaaaDoorW.PrintMore
open Go.Proofs.YtaaipbhfikefaaaDoor.P.Fd
theorem slice_all (g : Nat) (w : World) : (Instr.sliceAt 22 (.pointer (some ⟨g, 0, none⟩)) none none none).run Tryd.prog w = .ok (.slice (some ⟨g, 0, none⟩) 32 32) w := by kernel_rfl
end Go.Proofs.YtaaipbhfikefaaaDoor.P
end
