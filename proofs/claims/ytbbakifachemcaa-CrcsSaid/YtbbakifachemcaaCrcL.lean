/- The walks of the laws of chapter 4. -/
import Derived.Test.YtbbakifachemcaaCrcW
namespace Go.Proofs.Ytbbakifachemcaa
open Go.RowKit Crc

theorem sum9 : sumI [49, 50, 51, 52, 53, 54, 55, 56, 57] = 3421780262 := by decide +kernel
theorem sum0 : sumI [] = 0 := by decide +kernel

set_option maxHeartbeats 800000 in
theorem crcAwake_calls (w : World) : Calls Try.prog 27 #[] w fun e w' => e = .returned (.bool true) ∧ w = w' := by
  have h9 := sum9
  have h0 := sum0
  go_enter Try.func27, Try.ntmps27
  go_wp2_with (first | (go_at_call 25; refine (crcSum_calls _ _ (by decide)).mono ?_; rintro e w' ⟨rfl, rfl⟩) | (go_at_call 28; go_in))
  go_ret
  exact ⟨rfl, rfl⟩

set_option maxHeartbeats 800000 in
theorem crcs_walk (s : ByteArray) (W : World) (w0 : s.size ≤ 140737488351232) : Calls Try.prog 4 #[.string s] W fun e w' => e = .returned (.bool true) ∧ Below W.heap.size W w' := by
  have hs : s.size ≤ maxLen := by unfold maxLen; omega
  go_enter Try.func4, Try.ntmps4
  go_wp2_with (first | (go_at_call 25; refine (crcSum_calls _ _ hs).mono ?_; rintro e w' ⟨rfl, rfl⟩) | (go_at_call 26; refine (refCrc_calls _ _ hs).mono ?_; rintro e w' ⟨rfl, rfl⟩) | (go_at_call 27; refine (crcAwake_calls _).mono ?_; rintro e w' ⟨rfl, rfl⟩))
  go_ret
  exact ⟨rfl, Below.refl _ _⟩
end Go.Proofs.Ytbbakifachemcaa
