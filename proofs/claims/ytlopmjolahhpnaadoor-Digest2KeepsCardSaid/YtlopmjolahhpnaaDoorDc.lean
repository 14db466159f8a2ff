/- digest2's block, by its walk. -/
import Derived.Test.YtlopmjolahhpnaaDoorDb
namespace Go.Proofs.YtlopmjolahhpnaaDoor.P
set_option linter.unusedVariables false
set_option linter.unusedSimpArgs false
open Go.RowKit Go.Proofs.YtlopmjolahhpnaaDoorW.PrintWords Go.Proofs.YtlopmjolahhpnaaDoorW.PrintLast Go.Proofs.YtlopmjolahhpnaaDoorW.PrintMore
attribute [local go_sem] setCell_drewN
theorem info80 : (Tryd.prog.info? 48).map (·.size) = some 80 := by kernel_rfl
theorem info8u : (Tryd.prog.info? 42).map (·.size) = some 8 := by kernel_rfl
theorem zero80 (w : World) : (zeroValue 48).run Tryd.prog w = .ok (.agg (FR .u64 80 fun _ => 0)) w := by kernel_rfl
/-- The rounds' words: the newest first. -/
def wl (z : Nat → Int) : Nat → List Int
  | 0 => []
  | n + 1 => (if n < 16 then wd (fun j => z (8 * n + j)) 8 else IntKind.u64.wrap (IntKind.u64.wrap (IntKind.u64.wrap ((wl z n).getD 15 0 + sma ((wl z n).getD 14 0)) + (wl z n).getD 6 0) + smb ((wl z n).getD 1 0))) :: wl z n
def W (z : Nat → Int) (n : Nat) : Int := (wl z (n + 1)).getD 0 0
theorem wl_at (z : Nat → Int) : ∀ (n k : Nat), k < n → (wl z n).getD k 0 = W z (n - 1 - k)
  | n + 1, 0, _ => rfl
  | n + 1, k + 1, h => by
    have e : (wl z (n + 1)).getD (k + 1) 0 = (wl z n).getD k 0 := rfl
    rw [e, wl_at z n k (by omega)]
    congr 1
    omega
theorem W_low (z : Nat → Int) (n : Nat) (h : n < 16) : W z n = wd (fun j => z (8 * n + j)) 8 := by
  show (if n < 16 then _ else _) = _
  rw [if_pos h]
theorem W_high (z : Nat → Int) (n : Nat) (h : 16 ≤ n) : W z n = IntKind.u64.wrap (IntKind.u64.wrap (IntKind.u64.wrap (W z (n - 16) + sma (W z (n - 15))) + W z (n - 7)) + smb (W z (n - 2))) := by
  show (if n < 16 then _ else _) = _
  rw [if_neg (by omega), wl_at z n 15 (by omega), wl_at z n 14 (by omega), wl_at z n 6 (by omega), wl_at z n 1 (by omega)]
  rw [show n - 1 - 15 = n - 16 by omega, show n - 1 - 14 = n - 15 by omega, show n - 1 - 6 = n - 7 by omega, show n - 1 - 1 = n - 2 by omega]
/-- A digest under way, in memory. -/
def hcells (f : Nat → Int) (v : Value) (c : Int) : Array Value := FR .u64 8 f ++ #[v, .int .u64 c]
def HashAt (w : World) (g : Nat) (f : Nat → Int) (v : Value) (c : Int) : Prop := w.heap[g]? = some (.cells (hcells f v c) 44 (0, 0))
theorem HashAt.cell {w : World} {g : Nat} {f : Nat → Int} {v : Value} {c : Int} (h : HashAt w g f v c) (j : Nat) (hj : j < 8) : w.cell? ⟨g, j, none⟩ = some (.int .u64 (f j)) := by
  rw [cell_of_row w g j _ _ _ h]
  unfold hcells
  rw [Array.getElem?_append_left (by rw [FR_size]; exact hj), FR_at _ _ _ _ hj]
theorem HashAt.cell8 {w : World} {g : Nat} {f : Nat → Int} {v : Value} {c : Int} (h : HashAt w g f v c) : w.cell? ⟨g, 8, none⟩ = some v := by
  rw [cell_of_row w g 8 _ _ _ h]
  unfold hcells
  rw [Array.getElem?_append_right (by rw [FR_size]; omega), FR_size]; rfl
theorem HashAt.cell9 {w : World} {g : Nat} {f : Nat → Int} {v : Value} {c : Int} (h : HashAt w g f v c) : w.cell? ⟨g, 9, none⟩ = some (.int .u64 c) := by
  rw [cell_of_row w g 9 _ _ _ h]
  unfold hcells
  rw [Array.getElem?_append_right (by rw [FR_size]; omega), FR_size]; rfl
theorem HashAt.fro {w : World} {g : Nat} {f : Nat → Int} {v : Value} {c : Int} (h : HashAt w g f v c) (j : Nat) : w.frozen? ⟨g, j, none⟩ = false := frozen_of_row w g j _ _ h
theorem HashAt.lt {w : World} {g : Nat} {f : Nat → Int} {v : Value} {c : Int} (h : HashAt w g f v c) : g < w.heap.size := (Array.getElem?_eq_some_iff.1 h).1
theorem HashAt.set {w : World} {g : Nat} {f : Nat → Int} {v : Value} {c : Int} (h : HashAt w g f v c) (i : Nat) (x : Int) (hi : i < 8) : HashAt (w.setCell ⟨g, i, none⟩ (.int .u64 x)) g (upd f i x) v c := by
  have e := heap_setCell_same w g i _ _ (.int .u64 x) h
  unfold HashAt
  rw [e]
  unfold hcells
  rw [Array.setIfInBounds_append_left (by rw [FR_size]; exact hi), FR_set _ _ _ _ _ hi]
theorem HashAt.set8 {w : World} {g : Nat} {f : Nat → Int} {v : Value} {c : Int} (h : HashAt w g f v c) (u : Value) : HashAt (w.setCell ⟨g, 8, none⟩ u) g f u c := by
  have e := heap_setCell_same w g 8 _ _ u h
  unfold HashAt
  rw [e]
  unfold hcells
  rw [Array.setIfInBounds_append_right (by rw [FR_size]; omega), FR_size]
  rfl
theorem HashAt.set9 {w : World} {g : Nat} {f : Nat → Int} {v : Value} {c : Int} (h : HashAt w g f v c) (x : Int) : HashAt (w.setCell ⟨g, 9, none⟩ (.int .u64 x)) g f v x := by
  have e := heap_setCell_same w g 9 _ _ (.int .u64 x) h
  unfold HashAt
  rw [e]
  unfold hcells
  rw [Array.setIfInBounds_append_right (by rw [FR_size]; omega), FR_size]
  rfl
theorem HashAt.keep {w w' : World} {g : Nat} {f : Nat → Int} {v : Value} {c : Int} (h : HashAt w g f v c) (hk : w'.heap[g]? = w.heap[g]?) : HashAt w' g f v c := hk.trans h
theorem HashAt.congr {w : World} {g : Nat} {f f' : Nat → Int} {v : Value} {c : Int} (h : HashAt w g f v c) (e : ∀ j, j < 8 → f j = f' j) : HashAt w g f' v c := by
  unfold HashAt hcells at *; rw [h, FR_congr .u64 8 f f' e]
theorem HashAt.alloc {w : World} {g : Nat} {f : Nat → Int} {v : Value} {c : Int} (h : HashAt w g f v c) (o : Obj) : HashAt (w.alloc o) g f v c := h.keep (Below.heap_alloc w o g h.lt)
theorem HashAt.other {w : World} {g : Nat} {f : Nat → Int} {v : Value} {c : Int} (h : HashAt w g f v c) (a : Addr) (u : Value) (ha : g ≠ a.block) : HashAt (w.setCell a u) g f v c := h.keep (heap_setCell_other w a g u ha)
theorem HashAt.below {w w' : World} {B g : Nat} {f : Nat → Int} {v : Value} {c : Int} (h : HashAt w g f v c) (hb : Below B w w') (hg : g < B) : HashAt w' g f v c := h.keep (hb.block g hg)
/-- Between two worlds nothing has changed below B but the blocks of p. -/
structure Chg (p : Nat → Prop) (w w' : World) : Prop where
  os : w'.os = w.os
  tape : w'.tape = w.tape
  output : w'.output = w.output
  size : w.heap.size ≤ w'.heap.size
  block : ∀ b, b < w.heap.size → ¬ p b → w'.heap[b]? = w.heap[b]?
theorem Chg.trans {p : Nat → Prop} {a b c : World} (h : Chg p a b) (k : Chg p b c) : Chg p a c :=
  ⟨k.os.trans h.os, k.tape.trans h.tape, k.output.trans h.output, Nat.le_trans h.size k.size, fun i hi hp => (k.block i (Nat.lt_of_lt_of_le hi h.size) hp).trans (h.block i hi hp)⟩
theorem Chg.mono {p q : Nat → Prop} {a b : World} (h : Chg p a b) (hpq : ∀ i, i < a.heap.size → p i → q i) : Chg q a b := ⟨h.os, h.tape, h.output, h.size, fun i hi hq => h.block i hi fun hp => hq (hpq i hi hp)⟩
theorem Chg.refl (p : Nat → Prop) (w : World) : Chg p w w := ⟨rfl, rfl, rfl, Nat.le_refl _, fun _ _ _ => rfl⟩
theorem Chg.of_below {p : Nat → Prop} {w w' : World} (h : Below w.heap.size w w') : Chg p w w' := ⟨h.os, h.tape, h.output, h.size, fun b hb _ => h.block b hb⟩
theorem Chg.below {p : Nat → Prop} {B : Nat} {W w w' : World} (h : Below B W w) (k : Chg p w w') (hB : B ≤ w.heap.size) (hp : ∀ b, p b → B ≤ b) : Below B W w' :=
  ⟨k.os.trans h.os, k.tape.trans h.tape, k.output.trans h.output, Nat.le_trans h.size k.size, fun b hb => (k.block b (by omega) (fun q => by have := hp b q; omega)).trans (h.block b hb)⟩
theorem Chg.drewN {p : Nat → Prop} {a b : World} (h : Chg p a b) (n : Nat) : Chg p a (b.drewN n) := ⟨h.os, h.tape, h.output, h.size, h.block⟩
theorem Chg.set {p : Nat → Prop} {a b : World} (h : Chg p a b) (x : Addr) (v : Value) (hx : p x.block ∨ a.heap.size ≤ x.block) : Chg p a (b.setCell x v) :=
  ⟨h.os, h.tape, h.output, by simpa [World.setCell] using h.size, fun i hi hp => (heap_setCell_other b x i v (fun e => by subst e; rcases hx with hx | hx; exact hp hx; omega)).trans (h.block i hi hp)⟩
theorem Chg.alloc {p : Nat → Prop} {a b : World} (h : Chg p a b) (o : Obj) : Chg p a (b.alloc o) :=
  ⟨h.os, h.tape, h.output, by simpa using Nat.le_succ_of_le h.size, fun i hi hp => (Below.heap_alloc b o i (Nat.lt_of_lt_of_le hi h.size)).trans (h.block i hi hp)⟩
theorem Chg.stored {p : Nat → Prop} {a b c : World} {g : Nat} (h : Chg p a b) (hs : Stored b c g) (hg : p g ∨ a.heap.size ≤ g) : Chg p a c := by
  have k := hs.bel a.heap.size
  exact ⟨(hs.bel _ _ (Nat.le_refl _) (Below.refl _ _)).os.trans h.os, (hs.bel _ _ (Nat.le_refl _) (Below.refl _ _)).tape.trans h.tape, (hs.bel _ _ (Nat.le_refl _) (Below.refl _ _)).output.trans h.output, Nat.le_trans h.size (hs.bel _ _ (Nat.le_refl _) (Below.refl _ _)).size,
    fun i hi hp => (hs.other i (fun e => by subst e; rcases hg with hg | hg; exact hp hg; omega)).trans (h.block i hi hp)⟩
/-- The rounds' numbers. -/
def kList : List Int := [4794697086780616226, 8158064640168781261, 13096744586834688815, 16840607885511220156, 4131703408338449720, 6480981068601479193, 10538285296894168987, 12329834152419229976, 15566598209576043074, 1334009975649890238, 2608012711638119052, 6128411473006802146, 8268148722764581231, 9286055187155687089, 11230858885718282805, 13951009754708518548, 16472876342353939154, 17275323862435702243, 1135362057144423861, 2597628984639134821, 3308224258029322869, 5365058923640841347, 6679025012923562964, 8573033837759648693, 10970295158949994411, 12119686244451234320, 12683024718118986047, 13788192230050041572, 14330467153632333762, 15395433587784984357, 489312712824947311, 1452737877330783856, 2861767655752347644, 3322285676063803686, 5560940570517711597, 5996557281743188959, 7280758554555802590, 8532644243296465576, 9350256976987008742, 10552545826968843579, 11727347734174303076, 12113106623233404929, 14000437183269869457, 14369950271660146224, 15101387698204529176, 15463397548674623760, 17586052441742319658, 1182934255886127544, 1847814050463011016, 2177327727835720531, 2830643537854262169, 3796741975233480872, 4115178125766777443, 5681478168544905931, 6601373596472566643, 7507060721942968483, 8399075790359081724, 8693463985226723168, 9568029438360202098, 10144078919501101548, 10430055236837252648, 11840083180663258601, 13761210420658862357, 14299343276471374635, 14566680578165727644, 15097957966210449927, 16922976911328602910, 17689382322260857208, 500013540394364858, 748580250866718886, 1242879168328830382, 1977374033974150939, 2944078676154940804, 3659926193048069267, 4368137639120453308, 4836135668995329356, 5532061633213252278, 6448918945643986474, 6902733635092675308, 7801388544844847127]
def kk (j : Nat) : Int := kList.getD j 0
/-- The table, in memory. -/
def Tab (w : World) : Prop := ∀ j, j < 80 → w.cell? ⟨0, j, none⟩ = some (.int .u64 (kk j))
theorem Tab.keep {w w' : World} (h : Tab w) (hk : w'.heap[(0 : Nat)]? = w.heap[(0 : Nat)]?) : Tab w' := fun j hj => by rw [← h j hj]; exact World.cell?_of_block hk
theorem Tab.lt {w : World} (h : Tab w) : 0 < w.heap.size := World.block_lt_of_cell? w ⟨0, 0, none⟩ (h 0 (by omega))
def ch (e f g : Int) : Int := Go.bits .xor .u64 (Go.bits .and .u64 e f) (Go.bits .and .u64 (Go.bits .xor .u64 IntKind.u64.max e) g)
def mj (a b c : Int) : Int := Go.bits .xor .u64 (Go.bits .xor .u64 (Go.bits .and .u64 a b) (Go.bits .and .u64 a c)) (Go.bits .and .u64 b c)
def lst8 (a b c d e f g h : Int) (j : Nat) : Int := [a, b, c, d, e, f, g, h].getD j 0
def rT (v : Nat → Int) (k w : Int) : Int := IntKind.u64.wrap (IntKind.u64.wrap (IntKind.u64.wrap (IntKind.u64.wrap (v 7 + bige (v 4)) + ch (v 4) (v 5) (v 6)) + k) + w)
def rU (v : Nat → Int) : Int := IntKind.u64.wrap (biga (v 0) + mj (v 0) (v 1) (v 2))
/-- One round. -/
def rnd (v : Nat → Int) (k w : Int) : Nat → Int := lst8 (IntKind.u64.wrap (rT v k w + rU v)) (v 0) (v 1) (v 2) (IntKind.u64.wrap (v 3 + rT v k w)) (v 4) (v 5) (v 6)
theorem rnd_row (v : Nat → Int) (k w : Int) : (#[.int .u64 (IntKind.u64.wrap (rT v k w + rU v)), .int .u64 (v 0), .int .u64 (v 1), .int .u64 (v 2), .int .u64 (IntKind.u64.wrap (v 3 + rT v k w)), .int .u64 (v 4), .int .u64 (v 5), .int .u64 (v 6)] : Array Value) = FR .u64 8 (rnd v k w) := rfl
def rds (z f : Nat → Int) : Nat → Nat → Int
  | 0 => f
  | i + 1 => rnd (rds z f i) (kk i) (W z i)
/-- The state behind a block. -/
def nxt (f z : Nat → Int) (j : Nat) : Int := IntKind.u64.wrap (f j + rds z f 80 j)
def BR1 (z f : Nat → Int) (w : World) (v16 : Value) (wr : World) : Prop :=
  ∃ i : Nat, i ≤ 80 ∧ v16 = .int .i64 (i : Int) ∧ Below w.heap.size w wr ∧ Row wr w.heap.size .u64 80 (fun j => if j < i then W z j else 0) 48
def BR2 (z f : Nat → Int) (w : World) (b2 : Nat) (v72 : Value) (wr : World) : Prop :=
  ∃ i : Nat, i ≤ 80 ∧ v72 = .int .i64 (i : Int) ∧ Below w.heap.size w wr ∧ Row wr w.heap.size .u64 80 (W z) 48 ∧ Row wr b2 .u64 8 (rds z f i) 42
def BR3 (z f : Nat → Int) (g : Nat) (v : Value) (c : Int) (w : World) (b2 : Nat) (v162 : Value) (wr : World) : Prop :=
  ∃ i : Nat, i ≤ 8 ∧ v162 = .int .i64 (i : Int) ∧ Chg (· = g) w wr ∧ HashAt wr g (fun j => if j < i then nxt f z j else f j) v c ∧ Row wr b2 .u64 8 (rds z f 80) 42
theorem quiet_more {P : Program} {f : FuncId} {args : Array Value} {w : World} {a n : Nat} {v : Value} (h : Calls P f args (w.drewN (a + n)) fun e w' => e = .returned v ∧ w' = w.drewN (a + n)) :
    Calls P f args (w.drewN (a + n)) fun e w' => e = .returned v ∧ ∃ m, w' = w.drewN (a + m) := h.mono fun _ _ hh => ⟨hh.1, n, hh.2⟩
set_option maxRecDepth 100000 in
set_option maxHeartbeats 4000000 in
theorem block_calls (z f : Nat → Int) (g : Nat) (v : Value) (c : Int) (gb o len cap : Nat) (w : World) (ht : Tab w) (hh : HashAt w g f v c) (hl : 128 ≤ len) (hcap : len ≤ cap) (hcap2 : cap ≤ 9223372036854775807)
    (hc : ∀ j, j < 128 → w.cell? ⟨gb, o + j, none⟩ = some (.int .u8 (z j))) (hz : ∀ j, j < 128 → 0 ≤ z j ∧ z j < 256) :
    Calls Tryd.prog 16 #[.pointer (some ⟨g, 0, none⟩), .slice (some ⟨gb, o, none⟩) len cap] w fun e w' => e = .returned (.tuple #[]) ∧ Chg (· = g) w w' ∧ HashAt w' g (nxt f z) v c := by
  have HT := Aside0.mk ht
  have HH := Aside0.mk hh
  have HC := Aside0.mk hc
  have HZ := Aside0.mk hz
  have HL := Aside0.mk hl
  have hgl := hh.lt
  have HG := Aside0.mk hgl
  have hgb := World.block_lt_of_cell? w _ (hc 0 (by omega))
  have HGB := Aside0.mk hgb
  clear ht hh hc hz hgl hgb
  have HB0 := Aside0.mk ((Below.refl w.heap.size w).alloc (Nat.le_refl _) (.cells (FR .u64 80 fun _ => 0) 48))
  have HR0 := Aside0.mk (Row.new w .u64 80 (fun _ => 0) 48)
  go_enter Tryd.func16, Tryd.ntmps16
  have hzv := zero80
  go_wp2_with fail
  clear hzv
  go_loopw [16] (fun v16 wr => BR1 z f w v16 wr) (fun v _ => 80 - (intOf v).toNat)
  case atStart => exact ⟨0, by omega, rfl, HB0.out, row_eq HR0.out (fun j hj => by rw [if_neg (by omega)])⟩
  case round =>
    clear HB0 HR0
    obtain ⟨i, hi, rfl, hb, hr⟩ := hrel
    have HB := Aside0.mk hb
    have HR := Aside0.mk hr
    have hsz := hr.lt
    rcases Nat.lt_or_ge i 80 with h80 | h80
    · have hlt : ((i : Int) < 80) = True := eq_true (by omega)
      have f0 := hr.fro i
      rcases Nat.lt_or_ge i 16 with h16 | h16
      · have hlt2 : ((i : Int) < 16) = True := eq_true (by omega)
        have HS := Aside0.mk (part_step (a := ⟨0, 0, none⟩) hr h80)
        have k0 := hr.cell i h80
        rw [if_neg (Nat.lt_irrefl i)] at k0
        rw [W_low z i h16] at HS
        have HW := Aside0.mk (word_calls (fun j => z (8 * i + j)) gb (o + 8 * i) (len - 8 * i) (cap - 8 * i) wr (by omega) (fun j hj => by
          rw [show o + 8 * i + j = o + (8 * i + j) by omega, World.cell?_of_block (HB.out.block gb HGB.out)]; exact HC.out (8 * i + j) (by omega)) (fun j hj => HZ.out (8 * i + j) (by omega)))
        generalize wd (fun j => z (8 * i + j)) 8 = x at *
        have e8 : (8 * (i : Int)).toNat = 8 * i := by omega
        clear hb hr
        go_wp2_with fail
        refine (HW.out).mono ?_
        rintro e w1 ⟨rfl, rfl⟩
        go_wp2_with fail
        exact ⟨⟨i + 1, by omega, rfl, bel_set HB.out _ _ (Nat.le_refl _), HS.out⟩, meas_up 80 i h80⟩
      · obtain ⟨m, rfl⟩ : ∃ m, i = m + 16 := ⟨i - 16, by omega⟩
        have hge : (((m + 16 : Nat) : Int) < 16) = False := eq_false (by omega)
        have HS := Aside0.mk (part_step (a := ⟨0, 0, none⟩) hr h80)
        have k15 := hr.cell (m + 1) (by omega)
        rw [if_pos (by omega)] at k15
        have k2 := hr.cell (m + 14) (by omega)
        rw [if_pos (by omega)] at k2
        have k16 := hr.cell m (by omega)
        rw [if_pos (by omega)] at k16
        have k7 := hr.cell (m + 9) (by omega)
        rw [if_pos (by omega)] at k7
        have k0 := hr.cell (m + 16) h80
        rw [if_neg (Nat.lt_irrefl _)] at k0
        have HWH := W_high z (m + 16) (by omega)
        rw [show m + 16 - 16 = m by omega, show m + 16 - 15 = m + 1 by omega, show m + 16 - 7 = m + 9 by omega, show m + 16 - 2 = m + 14 by omega] at HWH
        rw [HWH] at HS
        clear HWH
        have e15 : ((m + 16 : Nat) : Int) - 15 = ((m + 1 : Nat) : Int) := by omega
        have e2 : ((m + 16 : Nat) : Int) - 2 = ((m + 14 : Nat) : Int) := by omega
        have e16 : ((m + 16 : Nat) : Int) - 16 = (m : Int) := by omega
        have e7 : ((m + 16 : Nat) : Int) - 7 = ((m + 9 : Nat) : Int) := by omega
        have l15 : (((m + 1 : Nat) : Int) < 80) = True := eq_true (by omega)
        have l2 : (((m + 14 : Nat) : Int) < 80) = True := eq_true (by omega)
        have l16 : ((m : Int) < 80) = True := eq_true (by omega)
        have l7 : (((m + 9 : Nat) : Int) < 80) = True := eq_true (by omega)
        generalize W z (m + 1) = x1 at *
        generalize W z (m + 14) = x14 at *
        generalize W z m = x0 at *
        generalize W z (m + 9) = x9 at *
        clear hb hr
        go_wp2_with fail
        go_region
        all_goals go_wp2_with fail
        refine (rot1 x1 _).mono ?_
        rintro e w1 ⟨rfl, rfl⟩
        go_wp2_with fail
        refine (rot8 x1 _).mono ?_
        rintro e w1 ⟨rfl, rfl⟩
        go_wp2_with fail
        refine (rot19 x14 _).mono ?_
        rintro e w1 ⟨rfl, rfl⟩
        go_wp2_with fail
        refine (rot61 x14 _).mono ?_
        rintro e w1 ⟨rfl, rfl⟩
        go_wp2_with fail
        go_region
        all_goals go_wp2_with fail
        refine ⟨⟨m + 16 + 1, by omega, rfl, bel_set HB.out.drew.drew ⟨w.heap.size, m + 16, none⟩ _ (Nat.le_refl _), HS.out⟩, meas_up 80 (m + 16) h80⟩
    · obtain rfl : i = 80 := by omega
      have HR2 := Aside0.mk (row_eq hr (f' := W z) (fun j hj => if_pos hj))
      clear hb hr HR
      have hh8 : ∀ j, j < 8 → wr.cell? ((⟨g, 0, none⟩ : Addr).add j) = some (.int .u64 (f j)) := fun j hj => by
        rw [show (⟨g, 0, none⟩ : Addr).add j = ⟨g, 0 + j, none⟩ from Addr.add_lit .., Nat.zero_add, World.cell?_of_block (HB.out.block g HG.out)]
        exact HH.out.cell j hj
      have HH8 := Aside0.mk hh8
      clear hh8
      have HB2 := Aside0.mk (HB.out.alloc (Nat.le_of_lt hsz) (.cells (FR .u64 8 fun _ => 0) 42))
      have HN := Aside0.mk (Row.new wr .u64 8 (fun _ => 0) 42)
      have HR3 := Aside0.mk (HR2.out.alloc (.cells (FR .u64 8 fun _ => 0) 42))
      go_wp2_with (first | (refine step_load_at HH8.out Tryd.underlying42 info8u rfl rfl rfl rfl ?_) | (refine step_storeG f HN.out info8u rfl rfl rfl rfl rfl ?_; intro w3 hs hr; have HB3 := Aside0.mk (hs.bel _ _ (Nat.le_of_lt hsz) HB2.out); have HV := Aside0.mk hr; have HR4 := Aside0.mk (HR3.out.stored hs (show w.heap.size ≠ wr.heap.size by omega)); clear hs hr))
      have hlt3 := HR4.out.lt
      have hb2 : w.heap.size ≤ wr.heap.size := Nat.le_of_lt hsz
      have hne : w.heap.size ≠ wr.heap.size := by omega
      clear HN HR3 HB2 HR2 HH8 HB
      generalize wr.heap.size = b2 at *
      go_loopw [72] (fun v72 wr => BR2 z f w b2 v72 wr) (fun v _ => 80 - (intOf v).toNat)
      case atStart => exact ⟨0, by omega, rfl, HB3.out, HR4.out, HV.out⟩
      case round =>
        clear HB3 HR4 HV
        obtain ⟨i, hi, rfl, hb, hw, hv⟩ := hrel
        have HB := Aside0.mk hb
        have HW := Aside0.mk hw
        have HV := Aside0.mk hv
        rcases Nat.lt_or_ge i 80 with h80 | h80
        · have hlt : ((i : Int) < 80) = True := eq_true (by omega)
          have kT := (HT.out.keep (HB.out.block _ HT.out.lt)) i h80
          have kW := hw.cell i h80
          have c0 := hv.cell 0 (by omega)
          have c1 := hv.cell 1 (by omega)
          have c2 := hv.cell 2 (by omega)
          have c3 := hv.cell 3 (by omega)
          have c4 := hv.cell 4 (by omega)
          have c5 := hv.cell 5 (by omega)
          have c6 := hv.cell 6 (by omega)
          have c7 := hv.cell 7 (by omega)
          have HE : Aside0 (rds z f (i + 1) = rnd (rds z f i) (kk i) (W z i)) := ⟨rfl⟩
          generalize rds z f i = vv at *
          generalize kk i = ki at *
          generalize W z i = wi at *
          clear hb hw hv
          go_wp2_with fail
          go_quiet ((go_at_call 20; exact Calls.quiet_of_same (rotk _ _ _ (by decide))))
          go_wp2_with fail
          go_quiet (fail)
          go_wp2_with fail
          go_quiet ((go_at_call 20; exact quiet_more (rotk _ _ _ (by decide))))
          go_wp2_with (refine step_storeG (rnd vv ki wi) (HV.out.drewN _) info8u rfl rfl rfl rfl (congrArg Value.agg (rnd_row vv ki wi)) ?_; intro w3 hs hr; have HV3 := Aside0.mk hr; have HB3 := Aside0.mk (hs.bel _ _ hb2 (bel_drewN HB.out _)); have HW3 := Aside0.mk ((HW.out.drewN _).stored hs hne); clear hs hr)
          exact ⟨⟨i + 1, by omega, rfl, HB3.out, HW3.out, by rw [HE.out]; exact HV3.out⟩, meas_up 80 i h80⟩
        · obtain rfl : i = 80 := by omega
          clear hb hw hv
          have HH3 := Aside0.mk (HH.out.below HB.out HG.out)
          have HB3 := Aside0.mk (Chg.of_below (p := (· = g)) HB.out)
          have hbsz := HB.out.size
          have HNE : Aside0 (g ≠ b2) := ⟨by have := HG.out; omega⟩
          go_wp2_with fail
          clear HB HW
          go_loopw [162] (fun v162 wr => BR3 z f g v c w b2 v162 wr) (fun v _ => 8 - (intOf v).toNat)
          case atStart => exact ⟨0, by omega, rfl, HB3.out, HH3.out.congr (fun j hj => by rw [if_neg (by omega)]), HV.out⟩
          case round =>
            clear HB3 HH3 HV
            obtain ⟨i, hi, rfl, hb, hh, hv⟩ := hrel
            have HB := Aside0.mk hb
            have HH := Aside0.mk hh
            have HV := Aside0.mk hv
            rcases Nat.lt_or_ge i 8 with h8 | h8
            · have hlt : ((i : Int) < 8) = True := eq_true (by omega)
              have k0 := hh.cell i h8
              rw [if_neg (Nat.lt_irrefl i)] at k0
              have f0 := hh.fro i
              have kv := hv.cell i h8
              have HS : Aside0 (HashAt (wr.setCell ⟨g, i, none⟩ (.int .u64 (IntKind.u64.wrap (f i + rds z f 80 i)))) g (fun j => if j < i + 1 then nxt f z j else f j) v c) := ⟨(hh.set i _ h8).congr (fun j hj => by
                unfold upd
                by_cases hji : j = i
                · subst hji; rw [if_pos rfl, if_pos (by omega)]; rfl
                · rw [if_neg hji]
                  show (if j < i then nxt f z j else f j) = _
                  by_cases hjl : j < i
                  · rw [if_pos hjl, if_pos (by omega)]
                  · rw [if_neg hjl, if_neg (by omega)])⟩
              generalize rds z f 80 i = x at *
              clear hb hh hv
              go_wp2_with fail
              go_region
              all_goals go_wp2_with fail
              exact ⟨⟨i + 1, by omega, rfl, HB.out.drewN 1 |>.set _ _ (.inl rfl), HS.out, HV.out.other _ _ HNE.out.symm⟩, meas_up 8 i h8⟩
            · obtain rfl : i = 8 := by omega
              have HE : Aside0 (HashAt wr g (nxt f z) v c) := ⟨hh.congr (fun j hj => if_pos hj)⟩
              clear hb hh hv
              go_wp2_with fail
              go_end0
              exact ⟨rfl, HB.out, HE.out⟩
end Go.Proofs.YtlopmjolahhpnaaDoor.P
