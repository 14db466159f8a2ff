/- Domain over lists of bytes; the document's; the walk of the law IdentDomains. -/
import Derived.Test.YtboelmakccaenaaN8
namespace Go.Proofs.Ytboelmakccaenaa.P
set_option linter.unusedVariables false
set_option linter.unusedSimpArgs false
open Go.RowKit Go.Proofs.YtboelmakccaenaaW.PrintWords Go.Proofs.YtboelmakccaenaaW.PrintLast Go.Proofs.YtboelmakccaenaaW.PrintMore
theorem named_colon {k : Int → Bool} {sign : Int} {l : List Int} (h : namedL k sign l = true) (hsg : sign ≠ 58) : colonN l < l.length ∧ serverL (l.drop (colonN l + 1)) = true := by
  cases l with
  | nil => unfold namedL at h; simp at h
  | cons c t =>
    unfold namedL at h
    rw [Bool.and_eq_true, Bool.and_eq_true, Bool.and_eq_true, Bool.and_eq_true] at h
    obtain ⟨⟨⟨h1, _⟩, h3⟩, h4, _⟩ := h
    have e : c = sign := Option.some.inj (of_decide_eq_true h1)
    have hn : colonN (c :: t) = colonN t + 1 := by simp only [colonN]; rw [if_neg (by rw [e]; exact hsg)]
    have h3' := of_decide_eq_true h3
    rw [List.drop_one, List.tail_cons] at h3' h4
    rw [hn, List.length_cons]
    exact ⟨by omega, h4⟩
def domL (l : List Int) : List Int := if (namedL kUser 64 l || namedL kRoom 33 l) = true then l.drop (colonN l + 1) else []
theorem named_or {l : List Int} (h : (namedL kUser 64 l || namedL kRoom 33 l) = true) : colonN l < l.length ∧ serverL (l.drop (colonN l + 1)) = true := by
  rcases (Bool.or_eq_true _ _).mp h with h | h
  · exact named_colon h (by decide)
  · exact named_colon h (by decide)
theorem domain_bytes (s : ByteArray) : bytesOf (domainS s) = domL (bytesOf s) := by
  unfold domainS domL
  rw [namedS_L, namedS_L]
  by_cases h : (namedL kUser 64 (bytesOf s) || namedL kRoom 33 (bytesOf s)) = true
  · rw [if_pos h, if_pos h]
    have hc := (named_or h).1
    rw [bytesOf_length] at hc
    unfold cutS
    rw [if_pos hc]
    exact bytes_extract s _
  · rw [if_neg h, if_neg h]
    rfl
theorem server_nil : serverL [] = false := by decide
/-- What holds of a domain: empty, and no name; or not empty, a server, and a user's or a room's. -/
theorem dom_or (l : List Int) : (domL l = [] ∧ namedL kUser 64 l = false ∧ namedL kRoom 33 l = false) ∨ ((domL l).isEmpty = false ∧ serverL (domL l) = true ∧ (namedL kUser 64 l || namedL kRoom 33 l) = true) := by
  unfold domL
  by_cases h : (namedL kUser 64 l || namedL kRoom 33 l) = true
  · right
    rw [if_pos h]
    have hsv := (named_or h).2
    refine ⟨?_, hsv, h⟩
    cases e : l.drop (colonN l + 1) with
    | nil => rw [e, server_nil] at hsv; cases hsv
    | cons a t => rfl
  · left
    rw [if_neg h]
    have h2 : (namedL kUser 64 l || namedL kRoom 33 l) = false := by simpa using h
    rw [Bool.or_eq_false_iff] at h2
    exact ⟨rfl, h2.1, h2.2⟩
theorem domain_cut {s : ByteArray} (h : (namedL kUser 64 (bytesOf s) || namedL kRoom 33 (bytesOf s)) = true) : domainS s = s.extract (colonN (bytesOf s) + 1) s.size := by
  have hc := (named_or h).1
  rw [bytesOf_length] at hc
  unfold domainS
  rw [namedS_L, namedS_L, if_pos h]
  unfold cutS
  rw [if_pos hc]
theorem ref_domain (s : ByteArray) (k : Nat) (hs : s.size ≤ 140737488351232) (hk : s.size * 20 + 20 ≤ k) : hustingsref10_Domain.f k s = some (domainS s) := by
  unfold hustingsref10_Domain.f
  rw [ref_user s k hs hk, Option.bind_some]
  cases hu : namedL kUser 64 (bytesOf s)
  · rw [if_neg (by decide), ref_room s k hs hk, Option.bind_some]
    cases hr : namedL kRoom 33 (bytesOf s)
    · rw [if_neg (by decide)]
      have : domainS s = ⟨#[]⟩ := by
        unfold domainS
        rw [namedS_L, namedS_L, hu, hr]
        rfl
      rw [this]
    · have h : (namedL kUser 64 (bytesOf s) || namedL kRoom 33 (bytesOf s)) = true := by rw [hu, hr]; rfl
      have hc := (named_or h).1
      rw [bytesOf_length] at hc
      rw [if_pos rfl, colon_f s k hs (by omega), Option.bind_some, w64 _ (by omega) (by omega), if_pos (by omega), if_pos (by omega), domain_cut h, show ((colonN (bytesOf s) : Int) + 1).toNat = colonN (bytesOf s) + 1 by omega]
  · have h : (namedL kUser 64 (bytesOf s) || namedL kRoom 33 (bytesOf s)) = true := by rw [hu]; rfl
    have hc := (named_or h).1
    rw [bytesOf_length] at hc
    rw [if_pos rfl, colon_f s k hs (by omega), Option.bind_some, w64 _ (by omega) (by omega), if_pos (by omega), if_pos (by omega), domain_cut h, show ((colonN (bytesOf s) : Int) + 1).toNat = colonN (bytesOf s) + 1 by omega]
theorem bytes_isEmpty (s : ByteArray) : s.toList.isEmpty = (bytesOf s).isEmpty := by rw [toList_isEmpty, size_isEmpty]
theorem dom_lit : domainS ⟨#[64, 97, 110, 110, 58, 97, 46, 111, 114, 103]⟩ = ⟨#[97, 46, 111, 114, 103]⟩ := by
  apply bytes_inj
  rw [domain_bytes]
  have : bytesOf (⟨#[64, 97, 110, 110, 58, 97, 46, 111, 114, 103]⟩ : ByteArray) = [64, 97, 110, 110, 58, 97, 46, 111, 114, 103] := rfl
  rw [this]
  decide
theorem domain_lit (w : World) : Calls Try.prog 63 #[.string ⟨#[64, 97, 110, 110, 58, 97, 46, 111, 114, 103]⟩] w fun e w' => e = .returned (.string ⟨#[97, 46, 111, 114, 103]⟩) ∧ Below w.heap.size w w' := by
  have h := domain_calls ⟨#[64, 97, 110, 110, 58, 97, 46, 111, 114, 103]⟩ w (by decide)
  rw [dom_lit] at h
  exact h
theorem hustingslaw10_IdentDomains.walk (a0 : ByteArray) (w : World) (hs : a0.size ≤ 140737488351232) :
    Calls Try.prog 21 #[.string a0] w fun e w' => e = .returned (.bool true) ∧ Below w.heap.size w w' := by
  have hdsz : (domainS a0).size ≤ 140737488351232 := by
    unfold domainS
    split
    · exact Nat.le_trans (cutS_size a0).2 hs
    · exact Nat.zero_le _
  by_cases hl : (a0.size : Int) > 1024
  · have h1 : decide ((1024 : Int) < (a0.size : Int)) = true := decide_eq_true hl
    clear hl
    go_enter Try.func21, Try.ntmps21
    go_wp2_with fail
    refine (domain_lit _).mono ?_
    rintro e w1 ⟨rfl, hb⟩
    go_wp2_with fail
    go_ret
    exact ⟨rfl, hb⟩
  · have h1 : decide ((1024 : Int) < (a0.size : Int)) = false := decide_eq_false hl
    clear hl
    have HR := Aside0.mk (fun w => hustingsref10_Domain.calls _ a0 _ w (ref_domain a0 _ hs (Nat.le_refl _)))
    have HD := Aside0.mk (fun w => domain_calls a0 w hs)
    have HU := Aside0.mk (fun w => user_calls a0 w hs)
    have HO := Aside0.mk (fun w => room_calls a0 w hs)
    have HS := Aside0.mk (fun w => server_calls (domainS a0) w hdsz)
    have hor := dom_or (bytesOf a0)
    rw [← domain_bytes] at hor
    rw [serverS_L] at HS
    rw [namedS_L] at HU HO
    clear hdsz
    generalize domainS a0 = d at HR HD HS hor
    generalize namedL kUser 64 (bytesOf a0) = u at HU hor
    generalize namedL kRoom 33 (bytesOf a0) = o at HO hor
    generalize serverL (bytesOf d) = sv at HS hor
    rcases hor with ⟨hd, rfl, rfl⟩ | ⟨hd, rfl, huo⟩
    · have hE : d.toList.isEmpty = true := by rw [bytes_isEmpty, hd]; rfl
      clear hd
      go_enter Try.func21, Try.ntmps21
      go_wp2_with fail
      refine (domain_lit _).mono ?_
      rintro e w1 ⟨rfl, hb⟩
      go_wp2_with fail
      refine (HD.out _).mono ?_
      rintro e w2 ⟨rfl, hb2⟩
      go_wp2_with fail
      refine (HR.out _).mono ?_
      rintro e w3 ⟨rfl, ⟨m, rfl⟩⟩
      go_wp2_with fail
      refine (HU.out _).mono ?_
      rintro e w4 ⟨rfl, hb4⟩
      go_wp2_with fail
      refine (HO.out _).mono ?_
      rintro e w5 ⟨rfl, hb5⟩
      go_wp2_with fail
      go_ret
      have b2 := hb.trans (hb2.mono hb.size)
      have b4 := b2.trans ((bel_d hb4).mono b2.size)
      exact ⟨rfl, b4.trans (hb5.mono b4.size)⟩
    · have hE : d.toList.isEmpty = false := by rw [bytes_isEmpty, hd]
      clear hd
      cases u
      · have ho : o = true := by simpa using huo
        subst ho
        go_enter Try.func21, Try.ntmps21
        go_wp2_with fail
        refine (domain_lit _).mono ?_
        rintro e w1 ⟨rfl, hb⟩
        go_wp2_with fail
        refine (HD.out _).mono ?_
        rintro e w2 ⟨rfl, hb2⟩
        go_wp2_with fail
        refine (HR.out _).mono ?_
        rintro e w3 ⟨rfl, ⟨m, rfl⟩⟩
        go_wp2_with fail
        refine (HU.out _).mono ?_
        rintro e w4 ⟨rfl, hb4⟩
        go_wp2_with fail
        refine (HO.out _).mono ?_
        rintro e w5 ⟨rfl, hb5⟩
        go_wp2_with fail
        refine (HS.out _).mono ?_
        rintro e w6 ⟨rfl, hb6⟩
        go_wp2_with fail
        go_ret
        have b2 := hb.trans (hb2.mono hb.size)
        have b4 := b2.trans ((bel_d hb4).mono b2.size)
        have b5 := b4.trans (hb5.mono b4.size)
        exact ⟨rfl, b5.trans (hb6.mono b5.size)⟩
      · go_enter Try.func21, Try.ntmps21
        go_wp2_with fail
        refine (domain_lit _).mono ?_
        rintro e w1 ⟨rfl, hb⟩
        go_wp2_with fail
        refine (HD.out _).mono ?_
        rintro e w2 ⟨rfl, hb2⟩
        go_wp2_with fail
        refine (HR.out _).mono ?_
        rintro e w3 ⟨rfl, ⟨m, rfl⟩⟩
        go_wp2_with fail
        refine (HU.out _).mono ?_
        rintro e w4 ⟨rfl, hb4⟩
        go_wp2_with fail
        refine (HS.out _).mono ?_
        rintro e w6 ⟨rfl, hb6⟩
        go_wp2_with fail
        go_ret
        have b2 := hb.trans (hb2.mono hb.size)
        have b4 := b2.trans ((bel_d hb4).mono b2.size)
        exact ⟨rfl, b4.trans (hb6.mono b4.size)⟩
end Go.Proofs.Ytboelmakccaenaa.P
