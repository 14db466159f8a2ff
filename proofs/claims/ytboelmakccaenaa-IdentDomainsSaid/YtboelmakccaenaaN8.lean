/- The statements IdentRooms, IdentUsers, over what the calls compute. -/
import Derived.Test.YtboelmakccaenaaU5
import Derived.Test.YtboelmakccaenaaG14
import Derived.Test.YtboelmakccaenaaG20
namespace Go.Proofs.Ytboelmakccaenaa.P
set_option linter.unusedVariables false
set_option linter.unusedSimpArgs false
open Go.RowKit Go.Proofs.YtboelmakccaenaaW.PrintWords Go.Proofs.YtboelmakccaenaaW.PrintLast Go.Proofs.YtboelmakccaenaaW.PrintMore
theorem ref_named (s K S : ByteArray) (sign : Int) (kk : Int → Bool) (k : Nat) (hs : s.size ≤ 140737488351232) (hk : s.size * 20 + 20 ≤ k) (hsg : sign ≠ 58)
    (hKS : K.size + S.size ≤ 17) (hkk : ofK (bytesOf K) (bytesOf S) = kk) : hustingsref10_named.f k s sign K S = some (namedL kk sign (bytesOf s)) := by
  unfold hustingsref10_named.f
  rw [colon_f s k hs (by omega), Option.bind_some]
  have hlen := bytesOf_length s
  obtain ⟨hj, t, ht, ht2⟩ | ⟨hj, h⟩ := drop_shape s 0
  · obtain ⟨_, hb, _⟩ := bt_drop s 0 _ _ ht
    rw [List.drop_zero] at ht
    have hb' : bt s 0 = ((s.get! 0).toNat : Int) := hb
    generalize hc : ((s.get! 0).toNat : Int) = c at hb' ht
    have e1 : (bytesOf s).drop 1 = t := by rw [ht]; rfl
    rw [ht] at hlen
    rw [List.length_cons] at hlen
    unfold namedL
    rw [e1, ht, List.head?_cons, List.length_cons, hlen]
    by_cases hl : (s.size : Int) ≤ 255
    · rw [if_pos hl]
      have hd : decide (s.size ≤ 255) = true := decide_eq_true (by omega)
      rw [hd]
      by_cases h58 : c = 58
      · have hn : colonN (c :: t) = 0 := by simp only [colonN]; rw [if_pos h58]
        have hd2 : decide (some c = some sign) = false := decide_eq_false (fun h => hsg (by rw [← Option.some.inj h]; exact h58))
        rw [hn, if_pos (by omega), if_neg (by omega), hd2]
        simp
      · have hn : colonN (c :: t) = colonN t + 1 := by simp only [colonN]; rw [if_neg h58]
        rw [hn]
        have hle := colonN_le t
        generalize hm : colonN t = m at hle
        by_cases hlt : m < t.length
        · have hd3 : decide (m < t.length) = true := decide_eq_true hlt
          rw [if_pos (by omega), if_pos (by omega), if_pos (by omega), hb', hd3]
          by_cases hcs : c = sign
          · have hd2 : decide (some c = some sign) = true := decide_eq_true (by rw [hcs])
            have hx : (s.extract 1 (m + 1)).size ≤ s.size := by simp only [ByteArray.size_extract]; omega
            have hof := of_f (s.extract 1 (m + 1)) K S k (by omega) hKS (by omega)
            rw [hkk, bytes_ext, e1, show m + 1 - 1 = m by omega] at hof
            have hy : (s.extract (m + 1 + 1) s.size).size ≤ s.size := by simp only [ByteArray.size_extract]; omega
            have hsv := ref_server (s.extract (m + 1 + 1) s.size) k (by omega) (by omega)
            rw [bytes_extract, show m + 1 + 1 = 1 + (m + 1) by omega, ← List.drop_drop, e1] at hsv
            rw [if_pos hcs, if_pos (by omega), if_pos (by omega), Int.toNat_natCast, hof, Option.bind_some, hd2]
            cases allL kk (t.take m)
            · rw [if_neg (by decide)]; simp
            · rw [if_pos rfl, w64 _ (by omega) (by omega), if_pos (by omega), if_pos (by omega), show (((m + 1 : Nat) : Int) + 1).toNat = 1 + (m + 1) by omega, hsv, Option.bind_some]
              simp
          · have hd2 : decide (some c = some sign) = false := decide_eq_false (fun h => hcs (Option.some.inj h))
            rw [if_neg hcs, hd2]
            simp
        · have hd3 : decide (m < t.length) = false := decide_eq_false hlt
          rw [if_neg (by omega), hd3]
          simp
    · rw [if_neg hl]
      have hd : decide (s.size ≤ 255) = false := decide_eq_false (by omega)
      rw [hd]
      simp
  · rw [List.drop_zero] at h
    have hh : namedL kk sign (bytesOf s) = false := by unfold namedL; rw [h]; simp
    have h0 : colonN (bytesOf s) = 0 := by rw [h]; rfl
    rw [hh, h0, if_pos (by omega), if_neg (by omega)]
theorem ref_room (s : ByteArray) (k : Nat) (hs : s.size ≤ 140737488351232) (hk : s.size * 20 + 20 ≤ k) : hustingsref10_Room.f k s = some (namedL kRoom 33 (bytesOf s)) := by
  obtain ⟨z, hz⟩ : ∃ z : ByteArray, z = ⟨#[97, 65, 48]⟩ := ⟨_, rfl⟩
  obtain ⟨y, hy⟩ : ∃ y : ByteArray, y = ⟨#[95, 45]⟩ := ⟨_, rfl⟩
  have sz : z.size = 3 := by rw [hz]; rfl
  have sy : y.size = 2 := by rw [hy]; rfl
  have bz : bytesOf z = [97, 65, 48] := by rw [hz]; rfl
  have bys : bytesOf y = [95, 45] := by rw [hy]; rfl
  unfold hustingsref10_Room.f
  rw [← hz, ← hy, ref_named s z y 33 kRoom k hs hk (by decide) (by omega) (by rw [bz, bys, kinds_room]), Option.bind_some]
theorem ref_user (s : ByteArray) (k : Nat) (hs : s.size ≤ 140737488351232) (hk : s.size * 20 + 20 ≤ k) : hustingsref10_User.f k s = some (namedL kUser 64 (bytesOf s)) := by
  obtain ⟨z, hz⟩ : ∃ z : ByteArray, z = ⟨#[97, 48]⟩ := ⟨_, rfl⟩
  obtain ⟨y, hy⟩ : ∃ y : ByteArray, y = ⟨#[46, 95, 61, 45, 47, 43]⟩ := ⟨_, rfl⟩
  have sz : z.size = 2 := by rw [hz]; rfl
  have sy : y.size = 6 := by rw [hy]; rfl
  have bz : bytesOf z = [97, 48] := by rw [hz]; rfl
  have bys : bytesOf y = [46, 95, 61, 45, 47, 43] := by rw [hy]; rfl
  unfold hustingsref10_User.f
  rw [← hz, ← hy, ref_named s z y 64 kUser k hs hk (by decide) (by omega) (by rw [bz, bys, kinds_user]), Option.bind_some]
theorem room_f (s : ByteArray) (hs : s.size ≤ 140737488351232) : ident_Room.f s = some (namedL kRoom 33 (bytesOf s)) := by
  unfold ident_Room.f
  rw [if_pos hs, namedS_L]
theorem user_f (s : ByteArray) (hs : s.size ≤ 140737488351232) : ident_User.f s = some (namedL kUser 64 (bytesOf s)) := by
  unfold ident_User.f
  rw [if_pos hs, namedS_L]
theorem room_lit (z : ByteArray) (l : List Int) (b : Bool) (hz : bytesOf z = l) (hb : namedL kRoom 33 l = b) (hl : l.length ≤ 100) : ident_Room.f z = some b := by
  have hs : z.size ≤ 100 := by rw [← bytesOf_length, hz]; exact hl
  rw [room_f z (by omega), hz, hb]
theorem user_lit (z : ByteArray) (l : List Int) (b : Bool) (hz : bytesOf z = l) (hb : namedL kUser 64 l = b) (hl : l.length ≤ 100) : ident_User.f z = some b := by
  have hs : z.size ≤ 100 := by rw [← bytesOf_length, hz]; exact hl
  rw [user_f z (by omega), hz, hb]
theorem IdentRooms_pure : hustingslaw10_IdentRooms.Pure := by
  intro s hs
  obtain ⟨z, hz⟩ : ∃ z : ByteArray, z = ⟨#[33, 82, 58, 97, 46, 111, 114, 103]⟩ := ⟨_, rfl⟩
  obtain ⟨y, hy⟩ : ∃ y : ByteArray, y = ⟨#[82, 58, 97, 46, 111, 114, 103]⟩ := ⟨_, rfl⟩
  have hzf : ident_Room.f z = some true := room_lit z [33, 82, 58, 97, 46, 111, 114, 103] true (by rw [hz]; rfl) (by decide) (by decide)
  have hyf : ident_Room.f y = some false := room_lit y [82, 58, 97, 46, 111, 114, 103] false (by rw [hy]; rfl) (by decide) (by decide)
  refine ⟨s.size * 20 + 20 + 1, ?_⟩
  unfold hustingslaw10_IdentRooms.f
  rw [← hz, hzf, Option.bind_some, if_pos rfl, ← hy, hyf, Option.bind_some]
  simp only [hustingslaw10_IdentRooms.j0]
  rw [if_neg (by decide)]
  by_cases h : (s.size : Int) > 1024
  · rw [if_pos h]
  · rw [if_neg h, room_f s hs, Option.bind_some, ref_room s _ hs (Nat.le_refl _), Option.bind_some]
    simp
theorem IdentUsers_pure : hustingslaw10_IdentUsers.Pure := by
  intro s hs
  obtain ⟨z, hz⟩ : ∃ z : ByteArray, z = ⟨#[64, 97, 110, 110, 58, 97, 46, 111, 114, 103]⟩ := ⟨_, rfl⟩
  obtain ⟨y, hy⟩ : ∃ y : ByteArray, y = ⟨#[64, 97, 110, 110]⟩ := ⟨_, rfl⟩
  have hzf : ident_User.f z = some true := user_lit z [64, 97, 110, 110, 58, 97, 46, 111, 114, 103] true (by rw [hz]; rfl) (by decide) (by decide)
  have hyf : ident_User.f y = some false := user_lit y [64, 97, 110, 110] false (by rw [hy]; rfl) (by decide) (by decide)
  refine ⟨s.size * 20 + 20 + 1, ?_⟩
  unfold hustingslaw10_IdentUsers.f
  rw [← hz, hzf, Option.bind_some, if_pos rfl, ← hy, hyf, Option.bind_some]
  simp only [hustingslaw10_IdentUsers.j0]
  rw [if_neg (by decide)]
  by_cases h : (s.size : Int) > 1024
  · rw [if_pos h]
  · rw [if_neg h, user_f s hs, Option.bind_some, ref_user s _ hs (Nat.le_refl _), Option.bind_some]
    simp
end Go.Proofs.Ytboelmakccaenaa.P
