/- The statements IdentKeys, IdentServers, over what the calls compute. -/
import Derived.Test.YtboelmakccaenaaU5
import Derived.Test.YtboelmakccaenaaG5
import Derived.Test.YtboelmakccaenaaG13
namespace Go.Proofs.Ytboelmakccaenaa.P
set_option linter.unusedVariables false
open Go.RowKit Go.Proofs.YtboelmakccaenaaW.PrintWords Go.Proofs.YtboelmakccaenaaW.PrintLast Go.Proofs.YtboelmakccaenaaW.PrintMore
theorem key_lit (z : ByteArray) (l : List Int) (b : Bool) (hz : bytesOf z = l) (hb : keyL l = b) (hl : l.length ≤ 100) : ident_Key.f z = some b := by
  have hs : z.size ≤ 100 := by rw [← bytesOf_length, hz]; exact hl
  rw [key_f z (by omega), hz, hb]
theorem IdentKeys_pure : hustingslaw10_IdentKeys.Pure := by
  intro s hs
  obtain ⟨z, hz⟩ : ∃ z : ByteArray, z = ⟨#[101, 100, 50, 53, 53, 49, 57, 58, 97, 95, 49]⟩ := ⟨_, rfl⟩
  obtain ⟨y, hy⟩ : ∃ y : ByteArray, y = ⟨#[101, 100, 50, 53, 53, 49, 57, 58]⟩ := ⟨_, rfl⟩
  have hzf : ident_Key.f z = some true := key_lit z [101, 100, 50, 53, 53, 49, 57, 58, 97, 95, 49] true (by rw [hz]; rfl) (by decide) (by decide)
  have hyf : ident_Key.f y = some false := key_lit y [101, 100, 50, 53, 53, 49, 57, 58] false (by rw [hy]; rfl) (by decide) (by decide)
  refine ⟨s.size * 20 + 20 + 1, ?_⟩
  unfold hustingslaw10_IdentKeys.f
  rw [← hz, hzf, Option.bind_some, if_pos rfl, ← hy, hyf, Option.bind_some]
  simp only [hustingslaw10_IdentKeys.j0]
  rw [if_neg (by decide)]
  by_cases h : (s.size : Int) > 1024
  · rw [if_pos h]
  · rw [if_neg h, key_f s hs, Option.bind_some, ref_key s _ hs (Nat.le_refl _), Option.bind_some]
    simp
theorem server_f (s : ByteArray) (hs : s.size ≤ 140737488351232) : ident_Server.f s = some (serverL (bytesOf s)) := by
  unfold ident_Server.f
  rw [if_pos hs, serverS_L]
theorem server_lit (z : ByteArray) (l : List Int) (b : Bool) (hz : bytesOf z = l) (hb : serverL l = b) (hl : l.length ≤ 100) : ident_Server.f z = some b := by
  have hs : z.size ≤ 100 := by rw [← bytesOf_length, hz]; exact hl
  rw [server_f z (by omega), hz, hb]
theorem IdentServers_pure : hustingslaw10_IdentServers.Pure := by
  intro s hs
  obtain ⟨z, hz⟩ : ∃ z : ByteArray, z = ⟨#[97, 46, 111, 114, 103, 58, 56, 52, 52, 56]⟩ := ⟨_, rfl⟩
  obtain ⟨y, hy⟩ : ∃ y : ByteArray, y = ⟨#[97, 46, 111, 114, 103, 58]⟩ := ⟨_, rfl⟩
  have hzf : ident_Server.f z = some true := server_lit z [97, 46, 111, 114, 103, 58, 56, 52, 52, 56] true (by rw [hz]; rfl) (by decide) (by decide)
  have hyf : ident_Server.f y = some false := server_lit y [97, 46, 111, 114, 103, 58] false (by rw [hy]; rfl) (by decide) (by decide)
  refine ⟨s.size * 20 + 20 + 1, ?_⟩
  unfold hustingslaw10_IdentServers.f
  rw [← hz, hzf, Option.bind_some, if_pos rfl, ← hy, hyf, Option.bind_some]
  simp only [hustingslaw10_IdentServers.j0]
  rw [if_neg (by decide)]
  by_cases h : (s.size : Int) > 1024
  · rw [if_pos h]
  · rw [if_neg h, server_f s hs, Option.bind_some, ref_server s _ hs (Nat.le_refl _), Option.bind_some]
    simp
end Go.Proofs.Ytboelmakccaenaa.P
