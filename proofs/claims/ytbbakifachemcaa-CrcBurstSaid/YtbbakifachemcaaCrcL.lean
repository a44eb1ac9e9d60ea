/- The walks of the laws of chapter 4. -/
import Derived.Test.YtbbakifachemcaaCrcW
import Derived.WalkLawsBesides
namespace Go.Proofs.Ytbbakifachemcaa
open Go.RowKit Crc
set_option linter.unusedVariables false

theorem num_calls (x : Int) (w : World) : Calls Try.prog 28 #[.int .i64 x] w fun e w' => e = .returned (.int .i64 x) ∧ w = w' := by
  go_enter Try.func28, Try.ntmps28
  go_wp2
  go_ret
  exact ⟨rfl, rfl⟩
theorem sum9 : sumI [49, 50, 51, 52, 53, 54, 55, 56, 57] = 3421780262 := by decide +kernel
theorem sum0 : sumI [] = 0 := by decide +kernel

set_option maxHeartbeats 800000 in
theorem crcAwake_calls (w : World) : Calls Try.prog 27 #[] w fun e w' => e = .returned (.bool true) ∧ w = w' := by
  have h9 := sum9
  have h0 := sum0
  go_enter Try.func27, Try.ntmps27
  go_wp2_with (first | (go_at_call 25; refine (crcSum_calls _ _ (by decide)).mono ?_; rintro e w' ⟨rfl, rfl⟩) | (go_at_call 28; go_in))
  go_ret
  exact ⟨rfl, rfl⟩

set_option maxHeartbeats 800000 in
theorem crcs_walk (s : ByteArray) (W : World) (w0 : s.size ≤ 140737488351232) : Calls Try.prog 4 #[.string s] W fun e w' => e = .returned (.bool true) ∧ Below W.heap.size W w' := by
  have hs : s.size ≤ maxLen := by unfold maxLen; omega
  go_enter Try.func4, Try.ntmps4
  go_wp2_with (first | (go_at_call 25; refine (crcSum_calls _ _ hs).mono ?_; rintro e w' ⟨rfl, rfl⟩) | (go_at_call 26; refine (refCrc_calls _ _ hs).mono ?_; rintro e w' ⟨rfl, rfl⟩) | (go_at_call 27; refine (crcAwake_calls _).mono ?_; rintro e w' ⟨rfl, rfl⟩))
  go_ret
  exact ⟨rfl, Below.refl _ _⟩

theorem mod5 (x : Int) : ∃ j : Int, (0 ≤ j ∧ j < 5) ∧ wrap64 ((IntKind.u64.wrap x).tmod 5) = j := by
  have h : IntKind.u64.wrap x = x % 18446744073709551616 := by simp [IntKind.wrap, IntKind.bits, IntKind.signed]
  rw [h, tmod_of_emod]
  refine ⟨x % 18446744073709551616 % 5, by omega, ?_⟩
  unfold wrap64
  omega

set_option maxHeartbeats 1600000 in
theorem crcKnown_walk (x : Int) (W : World) (w0 : (Lit.int .i64 x).wf = true) : Calls Try.prog 6 #[.int .i64 x] W fun e w' => e = .returned (.bool true) ∧ Below W.heap.size W w' := by
  obtain ⟨j, hj, e⟩ := mod5 x
  go_enter Try.func6, Try.ntmps6
  go_wp2_with (go_at_call 27; refine (crcAwake_calls _).mono ?_; rintro e w' ⟨rfl, rfl⟩)
  simp only [e]
  clear e w0
  have k0 : sumI [97] = 3904355907 := by decide +kernel
  have k1 : sumI [97, 98, 99] = 891568578 := by decide +kernel
  have k2 : sumI [0, 0, 0, 0] = 558161692 := by decide +kernel
  have k3 : sumI [255, 255, 255, 255] = 4294967295 := by decide +kernel
  have k4 : sumI [84, 104, 101, 32, 113, 117, 105, 99, 107, 32, 98, 114, 111, 119, 110, 32, 102, 111, 120, 32, 106, 117, 109, 112, 115, 32, 111, 118, 101, 114, 32, 116, 104, 101, 32, 108, 97, 122, 121, 32, 100, 111, 103] = 1095738169 := by decide +kernel
  obtain rfl | rfl | rfl | rfl | rfl : j = 0 ∨ j = 1 ∨ j = 2 ∨ j = 3 ∨ j = 4 := by omega
  all_goals
    clear hj
    go_quiet ((first | (go_at_call 25; exact qcall0 (crcSum_calls _ _ (by decide))) | (go_at_call 28; exact qcall0 (num_calls _ _))))
    go_wp2
    go_ret
    exact ⟨rfl, below_drewN (((Below.refl _ _).alloc (Nat.le_refl _) _).alloc (by simp) _) _⟩
end Go.Proofs.Ytbbakifachemcaa
