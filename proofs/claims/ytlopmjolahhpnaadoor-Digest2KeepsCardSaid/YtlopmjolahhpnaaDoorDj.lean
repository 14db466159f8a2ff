/- The law's alive (layer 3), by its walk; bytes that come in. -/
import Derived.Test.YtlopmjolahhpnaaDoorDi
import Derived.Lib.SlBytesConst
namespace Go.Proofs.YtlopmjolahhpnaaDoor.P
set_option linter.unusedVariables false
set_option linter.unusedSimpArgs false
open Go.RowKit Go.Proofs.YtlopmjolahhpnaaDoorW.PrintWords Go.Proofs.YtlopmjolahhpnaaDoorW.PrintLast Go.Proofs.YtlopmjolahhpnaaDoorW.PrintMore
attribute [local go_sem] setCell_drewN
def zabc (j : Nat) : Int := [97, 98, 99].getD j 0
theorem abc_dg : sN 8 (dg zabc 3) = ⟨#[221, 175, 53, 161, 147, 97, 122, 186]⟩ := by decide +kernel
theorem abc_at (w : World) : NumsAt .u8 (w.alloc (.cells #[.int .u8 97, .int .u8 98, .int .u8 99] 5 (3, 4))) (some ⟨w.heap.size, 0, none⟩) 3 zabc :=
  .inr ⟨_, rfl, fun j hj => by
    have hb : (w.alloc (.cells #[.int .u8 97, .int .u8 98, .int .u8 99] 5 (3, 4))).heap[w.heap.size]? = some (.cells #[.int .u8 97, .int .u8 98, .int .u8 99] 5 (3, 4)) := heap_alloc_new w _
    rw [show (⟨w.heap.size, 0, none⟩ : Addr).add j = ⟨w.heap.size, 0 + j, none⟩ from Addr.add_lit .., Nat.zero_add]
    have hj3 : j = 0 ∨ j = 1 ∨ j = 2 := by omega
    unfold World.cell?
    rcases hj3 with rfl | rfl | rfl <;> simp only [hb] <;> rfl⟩
set_option maxRecDepth 100000 in
theorem alive_calls (w : World) (ht : Tab w) :
    Calls Tryd.prog 7 #[] w fun e w' => e = .returned (.bool true) ∧ Below w.heap.size w w' := by
  have kc := fun (w : World) (C : Array Value) (n c : Nat) => Lib.run_convert_bytes_const (P := Tryd.prog) w 22 5 C n c Tryd.underlying22 Tryd.underlying5
  have HB1 := Aside0.mk ((Below.refl w.heap.size w).alloc (Nat.le_refl _) (.cells #[.int .u8 97, .int .u8 98, .int .u8 99] 5 (3, 4)))
  have HT1 := Aside0.mk (ht.keep (HB1.out.block _ ht.lt))
  clear ht
  go_enter Tryd.func7, Tryd.ntmps7
  go_wp2_with fail
  refine (of_calls zabc _ 3 3 _ HT1.out (abc_at w) (fun e => by cases e) (by omega) (fun j hj => by
    have hj3 : j = 0 ∨ j = 1 ∨ j = 2 := by omega
    rcases hj3 with rfl | rfl | rfl <;> decide)).mono ?_
  rintro e w2 ⟨rfl, hb⟩
  have HB2 := Aside0.mk (HB1.out.trans (hb.mono HB1.out.size))
  have HR2 := Aside0.mk (Row.new w2 .u8 64 (dg zabc 3) 24)
  have HR3 := Aside0.mk (Row.new w2 .u8 64 (fun _ => 0) 24)
  have HB3 := Aside0.mk (HB2.out.alloc HB2.out.size (.cells (FR .u8 64 fun _ => 0) 24))
  have hsz := HB2.out.size
  clear hb kc
  have hzv := zero64b
  go_wp2_with (refine step_storeG (dg zabc 3) HR3.out info64b rfl rfl rfl rfl rfl ?_; intro w5 hs hr; have HB5 := Aside0.mk (hs.bel w.heap.size w hsz HB3.out); have hcv : (convert 22 9 (.slice (some ⟨w2.heap.size, 0, none⟩) 8 64)).run Tryd.prog w5 = .ok (.string ⟨#[221, 175, 53, 161, 147, 97, 122, 186]⟩) w5 := (by rw [← abc_dg]; exact str_cells (o := 0) (fun j hj => by rw [Nat.zero_add]; exact hr.cell j (by omega))); clear hs hr)
  go_ret
  exact ⟨rfl, HB5.out⟩
/-- A row's bytes argument. -/
def IsRowB (w : World) (a : Option Addr) (len cap : Nat) (zs : List Int) : Prop :=
  (a = none ∧ len = 0 ∧ cap = 0 ∧ zs = []) ∨ ∃ x, a = some x ∧ len ≤ cap ∧ cap ≤ maxLen ∧ zs.length = cap ∧ (∀ i, i < zs.length → w.cell? (x.add i) = some (.int .u8 (zs.getD i 0))) ∧ ∀ n ∈ zs, (Lit.int .u8 n).wf = true
theorem IsRowB.at {w : World} {a : Option Addr} {len cap : Nat} {zs : List Int} (h : IsRowB w a len cap zs) : NumsAt .u8 w a len (fun j => zs.getD j 0) ∧ (∀ j, j < len → 0 ≤ zs.getD j 0 ∧ zs.getD j 0 < 256) ∧ len ≤ cap ∧ (a = none → cap = 0) := by
  rcases h with ⟨rfl, rfl, rfl, rfl⟩ | ⟨x, rfl, hle, hm, hz, hc, hw⟩
  · exact ⟨.inl ⟨rfl, rfl⟩, fun j hj => by omega, by omega, fun _ => rfl⟩
  · refine ⟨.inr ⟨x, rfl, fun j hj => hc j (by omega)⟩, fun j hj => u8b (hw _ ?_), hle, fun e => by cases e⟩
    rw [List.getD_eq_getElem?_getD, List.getElem?_eq_getElem (by omega)]
    exact List.getElem_mem _
end Go.Proofs.YtlopmjolahhpnaaDoor.P
