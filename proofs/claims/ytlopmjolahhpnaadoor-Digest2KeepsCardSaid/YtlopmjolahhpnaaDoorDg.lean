/- digest2's New and Write, by their walks. -/
import Derived.Test.YtlopmjolahhpnaaDoorDf
namespace Go.Proofs.YtlopmjolahhpnaaDoor.P
set_option linter.unusedVariables false
set_option linter.unusedSimpArgs false
open Go.RowKit Go.Proofs.YtlopmjolahhpnaaDoorW.PrintWords Go.Proofs.YtlopmjolahhpnaaDoorW.PrintLast Go.Proofs.YtlopmjolahhpnaaDoorW.PrintMore
attribute [local go_sem] setCell_drewN
/-- A digest to which n bytes were given. -/
def HashOf (w : World) (B g : Nat) (z : Nat → Int) (n : Nat) (v : Value) : Prop :=
  HashAt w g (absorb z (n / 128)) v (n : Int) ∧ OwnB w B v (n % 128) (fun j => z (128 * (n / 128) + j))
theorem new_calls (w : World) : Calls Tryd.prog 10 #[] w fun e w' => e = .returned (.pointer (some ⟨w.heap.size, 0, none⟩)) ∧ w' = w.alloc (.cells (hcells iv (.slice none 0 0) 0) 44) := by
  go_enter Tryd.func10, Tryd.ntmps10
  go_wp2_with fail
  go_ret
  exact ⟨rfl, rfl⟩
theorem write_nil (w : World) (a : Option Addr) (m cap : Nat) : Calls Tryd.prog 11 #[.pointer none, .slice a m cap] w fun e w' => e = .returned (.tuple #[]) ∧ w' = w := by
  go_enter Tryd.func11, Tryd.ntmps11
  go_wp2_with fail
  (try simp only [Exit.inBlock, Exit.then])
  refine bodyPost_ret (results_none rfl _ _ _) rfl ?_
  exact ⟨rfl, rfl⟩
def wlen (w : World) (g : Nat) : Nat := match w.cell? ⟨g, 8, none⟩ with
  | some v => slen v
  | none => 0
/-- In the midst of Write: k blocks more were taken in. -/
def WR1 (Z : Nat → Int) (q N : Nat) (B g : Nat) (v0 : Value) (w : World) (wr : World) : Prop := ∃ k v, 128 * (q + k) ≤ N ∧ HashAt wr g (absorb Z (q + k)) v (N : Int) ∧ OwnB wr B v (N - 128 * (q + k)) (fun j => Z (128 * (q + k) + j)) ∧ Tab wr ∧ Chg (fun b => b = g ∨ some b = v0.ownBlock) w wr ∧ (v.ownBlock = v0.ownBlock ∨ ∀ b, v.ownBlock = some b → w.heap.size ≤ b)
theorem wd_congr {z z' : Nat → Int} : ∀ i, (∀ j, j < i → z j = z' j) → wd z i = wd z' i
  | 0, _ => rfl
  | i + 1, h => by rw [wd, wd, wd_congr i (fun j hj => h j (by omega)), h i (by omega)]
theorem wl_congr {z z' : Nat → Int} (hz : ∀ j, j < 128 → z j = z' j) : ∀ i, wl z i = wl z' i
  | 0 => rfl
  | i + 1 => by
    rw [wl, wl, wl_congr hz i]
    congr 1
    split
    · exact wd_congr 8 (fun j hj => hz _ (by omega))
    · rfl
theorem W_congr {z z' : Nat → Int} (hz : ∀ j, j < 128 → z j = z' j) (i : Nat) : W z i = W z' i := by unfold W; rw [wl_congr hz]
theorem rds_congr {z z' f f' : Nat → Int} (hf : f = f') (hz : ∀ j, j < 128 → z j = z' j) : ∀ i, i ≤ 80 → rds z f i = rds z' f' i
  | 0, _ => hf
  | i + 1, h => by
    have ih := rds_congr hf hz i (by omega)
    show rnd _ _ _ = rnd _ _ _
    rw [ih, W_congr hz i]
theorem nxt_congr {z z' f f' : Nat → Int} (hf : f = f') (hz : ∀ j, j < 128 → z j = z' j) : nxt f z = nxt f' z' := by
  funext j
  unfold nxt
  rw [rds_congr hf hz 80 (Nat.le_refl _), hf]
/-- The slice behind its first m, as the program lays it. -/
theorem OwnS.cut {e : TypeId} {k : IntKind} {w : World} {base n m g o cap : Nat} {z : Nat → Int} (h : OwnS e k w base (.slice (some ⟨g, o, none⟩) n cap) n z) (hm : m ≤ n) : OwnS e k w base (.slice (if cap = m then some ⟨g, o, none⟩ else some ⟨g, o + m, none⟩) (n - m) (cap - m)) (n - m) (fun j => z (m + j)) := by
  rcases h with ⟨h, _⟩ | ⟨g', o', cap', cur, h1, hb, hg, hn2, hx, hs, ht⟩
  · cases h
  · cases h1
    by_cases hc : cap = m
    · rw [if_pos hc]
      exact .inr ⟨g, o, cap - m, cur, rfl, hb, hg, by omega, by omega, by omega, fun j hj => by omega⟩
    · rw [if_neg hc]
      exact .inr ⟨g, o + m, cap - m, cur, rfl, hb, hg, by omega, by omega, by omega, fun j hj => by rw [show o + m + j = o + (m + j) by omega]; exact ht (m + j) (by omega)⟩
theorem cut_own (g o cap m n : Nat) : (Value.slice (if cap = m then some ⟨g, o, none⟩ else some ⟨g, o + m, none⟩) n (cap - m)).ownBlock = some g := by split <;> rfl
theorem hash_ne {w : World} {g B n : Nat} {f z : Nat → Int} {v u : Value} {c : Int} (h : HashAt w g f u c) (ho : OwnB w B v n z) : v.ownBlock ≠ some g := by
  intro e
  rcases ho with ⟨rfl, _⟩ | ⟨g', o, cap, cur, rfl, _, hg, _⟩
  · cases e
  · cases e
    unfold HashAt at h
    rw [h] at hg
    cases hg
set_option maxRecDepth 100000 in
set_option maxHeartbeats 2000000 in
theorem write_calls (z y : Nat → Int) (n m : Nat) (B g : Nat) (v : Value) (a : Option Addr) (cap : Nat) (w : World) (ht : Tab w) (hh : HashOf w B g z n v) (hB : 0 < B) (hgB : B ≤ g ∧ B ≤ w.heap.size)
    (hI : NumsAt .u8 w a m y) (hn0 : a = none → cap = 0) (hag : ∀ x, a = some x → 0 < m → x.block ≠ g) (hnm : n + m ≤ 1099511627776) (hz : ∀ j, j < n → 0 ≤ z j ∧ z j < 256) (hy : ∀ j, j < m → 0 ≤ y j ∧ y j < 256) :
    Calls Tryd.prog 11 #[.pointer (some ⟨g, 0, none⟩), .slice a m cap] w fun e w' => e = .returned (.tuple #[]) ∧ ∃ v', HashOf w' B g (fun j => if j < n then z j else y (j - n)) (n + m) v' ∧ Chg (fun b => b = g ∨ some b = v.ownBlock) w w' ∧ (v'.ownBlock = v.ownBlock ∨ ∀ b, v'.ownBlock = some b → w.heap.size ≤ b) := by
  obtain ⟨hh1, hh2⟩ := hh
  obtain ⟨x0, c0, rfl⟩ := hh2.form
  have k8 := hh1.cell8
  have k9 := hh1.cell9
  have f8 := hh1.fro 8
  have f9 := hh1.fro 9
  have HH := Aside0.mk hh1
  have hq1 : IntKind.u64.wrap (m : Int) = (m : Int) := u64w _ (by omega) (by omega)
  have hq2 : IntKind.u64.wrap ((n : Int) + (m : Int)) = (n : Int) + (m : Int) := u64w _ (by omega) (by omega)
  have HNE := Aside0.mk (hash_ne hh1 hh2)
  have hgl := hh1.lt
  have HOV := Aside0.mk (OwnS.keep (w' := w.setCell ⟨g, 9, none⟩ (.int .u64 ((n : Int) + (m : Int)))) hh2 (fun b hb => heap_setCell_other _ _ _ _ (fun e => HNE.out (by rw [hb, e]))))
  have HI := Aside0.mk (hI.keep (w' := w.setCell ⟨g, 9, none⟩ (.int .u64 ((n : Int) + (m : Int)))) (fun x hx h0 => heap_setCell_other _ _ _ _ (hag x hx h0)))
  have HH1 := Aside0.mk (hh1.set9 ((n : Int) + (m : Int)))
  have HT1 := Aside0.mk (ht.keep (w' := w.setCell ⟨g, 9, none⟩ (.int .u64 ((n : Int) + (m : Int)))) (heap_setCell_other _ _ _ _ (show (0 : Nat) ≠ g by omega)))
  have HC1 := Aside0.mk ((Chg.refl (fun b => b = g ∨ some b = (Value.slice x0 (n % 128) c0).ownBlock) w).set ⟨g, 9, none⟩ (.int .u64 ((n : Int) + (m : Int))) (.inl (.inl rfl)))
  have HSZ : Aside0 ((w.setCell ⟨g, 9, none⟩ (.int .u64 ((n : Int) + (m : Int)))).heap.size = w.heap.size) := ⟨by simp [World.setCell]⟩
  have HLT := Aside0.mk hh2.lt
  have HZZ : Aside0 (∀ j, j < n + m → 0 ≤ (if j < n then z j else y (j - n)) ∧ (if j < n then z j else y (j - n)) < 256) := ⟨fun j hj => by
    split
    · exact hz j (by assumption)
    · exact hy (j - n) (by omega)⟩
  have HST : Aside0 (absorb z (n / 128) = absorb (fun j => if j < n then z j else y (j - n)) (n / 128)) := ⟨by
    have key : ∀ k, 128 * k ≤ n → absorb z k = absorb (fun j => if j < n then z j else y (j - n)) k := by
      intro k
      induction k with
      | zero => intro _; rfl
      | succ k ih =>
        intro hk
        exact nxt_congr (ih (by omega)) (fun j hj => by show _ = (if 128 * k + j < n then _ else _); rw [if_pos (by omega)])
    exact key _ (by omega)⟩
  have HB := Aside0.mk hB
  have HGB := Aside0.mk hgB
  clear hh1 hh2 hI hag hz hy ht
  have hbs : B ≤ (w.setCell ⟨g, 9, none⟩ (.int .u64 ((n : Int) + (m : Int)))).heap.size := by rw [HSZ.out]; exact hgB.2
  go_enter Tryd.func11, Tryd.ntmps11
  go_wp2_with (refine step_append HOV.out HI.out Tryd.underlying22 info8p rfl rfl rfl rfl rfl hn0 (by unfold maxLen; omega) (by omega) hbs ?_; intro v5 w5 ho5 hg5 hat _; obtain ⟨x5, c5, rfl⟩ := ho5.form; have HG5 := Aside0.mk hg5; have HAT := Aside0.mk hat; have HO5 := Aside0.mk ho5; have HH5 := Aside0.mk (HH1.out.keep (hg5.block g (by rw [HSZ.out]; exact hgl) (fun e => HNE.out e.symm))); have k85 := HH5.out.cell8; have f85 := HH5.out.fro 8; clear ho5 hg5 hat)
  have HSB : Aside0 (∀ b, (Value.slice x5 (n % 128 + m) c5).ownBlock = some b → b ≠ g) := ⟨fun b hb e => hash_ne HH5.out HO5.out (by rw [hb, e])⟩
  have HH6 := Aside0.mk (HH5.out.set8 (.slice x5 (n % 128 + m) c5))
  have HO6 := Aside0.mk (HO5.out.keep (w' := w5.setCell ⟨g, 8, none⟩ (.slice x5 (n % 128 + m) c5)) (fun b hb => heap_setCell_other _ _ _ _ (HSB.out b hb)))
  have HC6 : Aside0 (Chg (fun b => b = g ∨ some b = (Value.slice x0 (n % 128) c0).ownBlock) w (w5.setCell ⟨g, 8, none⟩ (.slice x5 (n % 128 + m) c5))) := ⟨(HC1.out.trans ⟨HG5.out.os, HG5.out.tape, HG5.out.output, HG5.out.size, fun b hb hp => HG5.out.block b hb (fun e => hp (.inr e))⟩).set ⟨g, 8, none⟩ _ (.inl (.inl rfl))⟩
  have HT6 : Aside0 (Tab (w5.setCell ⟨g, 8, none⟩ (.slice x5 (n % 128 + m) c5))) := ⟨(HT1.out.keep (HG5.out.block _ HT1.out.lt (fun e => by have := (HLT.out _ e.symm).1; have := HB.out; omega))).keep (heap_setCell_other _ _ _ _ (show (0 : Nat) ≠ g by have := HB.out; have := HGB.out; omega))⟩
  obtain ⟨Z, hZ⟩ : ∃ Z, Z = fun j => if j < n then z j else y (j - n) := ⟨_, rfl⟩
  rw [← hZ] at HST
  have HZB : Aside0 (∀ j, j < n + m → 0 ≤ Z j ∧ Z j < 256) := ⟨by rw [hZ]; exact HZZ.out⟩
  have HO7 : Aside0 (OwnB (w5.setCell ⟨g, 8, none⟩ (.slice x5 (n % 128 + m) c5)) B (.slice x5 (n % 128 + m) c5) (n + m - 128 * (n / 128 + 0)) (fun j => Z (128 * (n / 128 + 0) + j))) := ⟨by
    have h := HO6.out
    have e : n % 128 + m = n + m - 128 * (n / 128 + 0) := by omega
    unfold OwnB at h ⊢
    rw [← e]
    exact h.congr (fun j hj => by
      rw [hZ]
      show _ = (if 128 * (n / 128 + 0) + j < n then _ else _)
      by_cases h1 : j < n % 128
      · rw [if_pos h1, if_pos (by omega)]; rfl
      · rw [if_neg h1, if_neg (by omega), show 128 * (n / 128 + 0) + j - n = j - n % 128 by omega])⟩
  have HH7 : Aside0 (HashAt (w5.setCell ⟨g, 8, none⟩ (.slice x5 (n % 128 + m) c5)) g (absorb Z (n / 128 + 0)) (.slice x5 (n % 128 + m) c5) ((n + m : Nat) : Int)) := ⟨by
    have h := HH6.out
    rw [HST.out] at h
    rw [Int.natCast_add]
    exact h⟩
  have HAT7 : Aside0 ((Value.slice x5 (n % 128 + m) c5).ownBlock = (Value.slice x0 (n % 128) c0).ownBlock ∨ ∀ b, (Value.slice x5 (n % 128 + m) c5).ownBlock = some b → w.heap.size ≤ b) := ⟨by
    rcases HAT.out with h | h
    · exact .inl h
    · exact .inr fun b hb => by rw [h, HSZ.out] at hb; cases hb; exact Nat.le_refl _⟩
  clear HO5 HO6 HH5 HH6 HAT HSB HG5 HH1 HOV HI HT1 HC1 HSZ HH HZZ hbs k8 k9 f8 f9 k85 f85 hq1 hq2
  generalize hv0 : Value.slice x0 (n % 128) c0 = v0 at *
  go_loopw [25] (fun _ wr => WR1 Z (n / 128) (n + m) B g v0 w wr) (fun _ wr => wlen wr g)
  case atStart => exact ⟨0, _, by omega, HH7.out, HO7.out, HT6.out, HC6.out, HAT7.out⟩
  case round =>
    clear HO7 HH7 HAT7 HT6 HC6
    obtain ⟨k, vk, hk, hh, ho, ht, hc, hat⟩ := hrel
    obtain ⟨xk, ck, rfl⟩ := ho.form
    have HH := Aside0.mk hh
    have HO := Aside0.mk ho
    have HT := Aside0.mk ht
    have HC := Aside0.mk hc
    have HAT := Aside0.mk hat
    have k8 := hh.cell8
    clear ht hc hat
    obtain ⟨L, hL⟩ : ∃ L, n + m - 128 * (n / 128 + k) = L := ⟨_, rfl⟩
    have hL2 : L + 128 * (n / 128 + k) = n + m := by omega
    rw [hL] at ho HO k8 HAT
    simp only [hL] at HH ⊢
    rcases Nat.lt_or_ge L 128 with h128 | h128
    · have hge : ((L : Int) ≥ 128) = False := eq_false (by omega)
      have hge2 : (128 ≤ (L : Int)) = False := eq_false (by omega)
      clear hh ho
      go_wp2_with fail
      go_end0
      have e1 : (n + m) / 128 = n / 128 + k := by omega
      have e2 : (n + m) % 128 = L := by omega
      refine ⟨rfl, _, ⟨?_, ?_⟩, by rw [hv0]; exact HC.out, by rw [hv0]; exact HAT.out⟩
      · rw [e1, ← hZ]; exact HH.out
      · rw [e1, e2, ← hZ]; exact HO.out
    · have hge : ((L : Int) ≥ 128) = True := eq_true (by omega)
      have hge2 : (128 ≤ (L : Int)) = True := eq_true (by omega)
      obtain ⟨gk, ok, ck', e', hck, hgk1, hgk2, hcl, _, _⟩ := ho.open (by omega)
      cases e'
      have hmx : ck ≤ 9223372036854775807 := by
        rcases ho with ⟨h, _⟩ | ⟨_, _, _, _, h, _, _, _, hm, _⟩
        · cases h
        · cases h; unfold maxLen at hm; omega
      have HBK := Aside0.mk (block_calls (fun j => Z (128 * (n / 128 + k) + j)) (absorb Z (n / 128 + k)) g (.slice (some ⟨gk, ok, none⟩) L ck) ((n + m : Nat) : Int) gk ok L ck wr HT.out HH.out h128 hck hmx (fun j hj => hcl j (by omega)) (fun j hj => HZB.out _ (by omega)))
      clear hcl
      go_wp2_with fail
      refine (HBK.out).mono ?_
      rintro e w6 ⟨rfl, hc6, hh6⟩
      have hgne : gk ≠ g := fun e => hash_ne HH.out HO.out (by rw [e]; rfl)
      have HNG := Aside0.mk hgne
      have HC6 := Aside0.mk (HC.out.trans (hc6.mono (fun b _ hb => .inl hb)))
      have HT6 := Aside0.mk (HT.out.keep (hc6.block _ HT.out.lt (fun e => by have := HB.out; have := HGB.out; omega)))
      have HO6 := Aside0.mk (HO.out.keep (w' := w6) (fun b hb => by cases hb; exact hc6.block gk hgk2 hgne))
      have HH6 := Aside0.mk hh6
      have k86 := hh6.cell8
      have f86 := hh6.fro 8
      have HW0 : Aside0 (wlen wr g = L) := ⟨by unfold wlen; rw [k8]; rfl⟩
      clear hc6 hh6 HBK k8 hh ho
      have p1 : (128 : Int) ≤ (ck : Int) := by omega
      have p2 : (128 : Int) ≤ (L : Int) := by omega
      go_wp2_with fail
      have HH7 := Aside0.mk (HH6.out.set8 (.slice (if ck = 128 then some ⟨gk, ok, none⟩ else some ⟨gk, ok + 128, none⟩) (L - 128) (ck - 128)))
      have HO7 := Aside0.mk ((HO6.out.cut h128).keep (w' := w6.setCell ⟨g, 8, none⟩ (.slice (if ck = 128 then some ⟨gk, ok, none⟩ else some ⟨gk, ok + 128, none⟩) (L - 128) (ck - 128))) (fun b hb => heap_setCell_other _ _ _ _ (fun e => by rw [cut_own] at hb; cases hb; exact HNG.out e)))
      refine ⟨?_, ?_⟩
      · refine ⟨k + 1, _, by omega, HH7.out, ?_, HT6.out.keep (heap_setCell_other _ _ _ _ (show (0 : Nat) ≠ g by have := HB.out; have := HGB.out; omega)), HC6.out.set _ _ (.inl (.inl rfl)), ?_⟩
        · have h := HO7.out
          have e1 : n + m - 128 * (n / 128 + (k + 1)) = L - 128 := by omega
          unfold OwnB at h ⊢
          rw [e1]
          exact h.congr (fun j hj => by rw [show 128 * (n / 128 + k) + (128 + j) = 128 * (n / 128 + (k + 1)) + j by omega])
        · rw [cut_own]; exact HAT.out
      · rw [HW0.out]
        have h := HH7.out.cell8
        unfold wlen
        rw [h]
        show L - 128 < L
        omega
end Go.Proofs.YtlopmjolahhpnaaDoor.P
