/- The walk of the law BitsCopied. -/
import Derived.Test.YtbbakifachemcaaBitsM
namespace Go.Proofs.Ytbbakifachemcaa
open Go.RowKit Bt
set_option linter.unusedVariables false

set_option maxHeartbeats 3200000 in
set_option maxRecDepth 100000 in
theorem bitsCopied_walk (s : ByteArray) (from_ count : Int) (W : World) (w0 : s.size ≤ 17592186044415) (w1 : (Lit.int .i64 from_).wf = true) (w2 : (Lit.int .i64 count).wf = true) :
    Calls Try.prog 14 #[.string s, .int .i64 from_, .int .i64 count] W fun e w' => e = .returned (.bool true) ∧ Below W.heap.size W w' := by
  have HB := Below.refl W.heap.size W
  have hs : s.size ≤ 140737488351232 := by omega
  clear w1 w2
  obtain ⟨k, k0, k1, e1⟩ := modI from_ (8 * (s.size : Int) + 1) (by omega) (by omega)
  obtain ⟨k, rfl⟩ := Int.eq_ofNat_of_zero_le k0
  obtain ⟨m, m0, m1, e2⟩ := modI count (8 * (s.size : Int) - k + 1) (by omega) (by omega)
  obtain ⟨m, rfl⟩ := Int.eq_ofNat_of_zero_le m0
  have hl : (packed (some_ s.data.toList k m)).length = (m + 7) / 8 := by rw [packed_length, some_length]
  have h1 := copy_ok s.data.toList s.size k m k m rfl rfl (by omega)
  have h2 := count_ok s.data.toList s.size k m k m rfl rfl (by omega)
  have h3 := count_ok (packed (some_ s.data.toList k m)) ((m + 7) / 8) 0 (8 * (((m : Int) + 7) / 8)) 0 (8 * ((m + 7) / 8)) rfl (by omega) (by omega)
  have h4 := ones_packed s.data.toList k m
  rw [hl] at h4
  rw [h4] at h3
  have HG := Lib.hid (show ∀ i, i < m → bit (packed (some_ s.data.toList k m)) i = bit s.data.toList (k + i) from fun i hi => by rw [packed_bit, some_getD, if_pos hi])
  have hz : (⟨(packed (some_ s.data.toList k m)).toArray⟩ : ByteArray).size ≤ 140737488351232 := by simp [ByteArray.size]; omega
  have hcast : (((m + 7) / 8 : Nat) : Int) = ((m : Int) + 7) / 8 := by omega
  clear h4
  generalize packed (some_ s.data.toList k m) = A at *
  generalize ones s.data.toList k m = x at *
  go_enter Try.func14, Try.ntmps14
  go_wp2_with (first | (go_at_call 42; refine (bitsCopy_calls _ _ _ _ (by first | assumption | (simp [ByteArray.size]; done)) (by first | assumption | omega) (by first | assumption | (intro h; unfold okR at h; omega) | (intro _; decide))).mono ?_; rintro e w' ⟨rfl, hb⟩; replace HB := below_then (by repeat (first | exact HB | apply below_alloc | apply below_drewN | apply below_drew)) hb; clear hb) | (go_at_call 40; refine (bitsCount_calls _ _ _ _ (by first | assumption | (simp [ByteArray.size]; done)) (by first | assumption | omega)).mono ?_; rintro e w' ⟨rfl, hb⟩; replace HB := below_then (by repeat (first | exact HB | apply below_alloc | apply below_drewN | apply below_drew)) hb; clear hb) | (go_at_call 44; refine (bitsAwake_calls _).mono ?_; rintro e w' ⟨rfl, hb⟩; replace HB := below_then (by repeat (first | exact HB | apply below_alloc | apply below_drewN | apply below_drew)) hb; clear hb) | (go_at_call 28; refine (num_calls _ _).mono ?_; rintro e w' ⟨rfl, rfl⟩))
  have HB0 := Lib.hid HB
  clear HB
  go_loop [15] (fun c => ∃ n : Nat, n ≤ m ∧ c = .int .i64 n) (fun c => m - (intOf c).toNat)
  case atStart => exact ⟨0, by omega, rfl⟩
  case round =>
    obtain ⟨n, hn, rfl⟩ := hrel
    by_cases hlt : n < m
    · have g1 := get_ok s.data.toList s.size ((k : Int) + (n : Int)) (k + n) (by omega) (by omega)
      have g2 := get_ok A ((m + 7) / 8) n n rfl (by omega)
      rw [HG.out n hlt] at g2
      generalize bit s.data.toList (k + n) = y at g1 g2
      go_wp2_with (first | (go_at_call 36; refine (bitsGet_calls _ _ _ (by first | assumption | (simp [ByteArray.size]; done)) (by first | assumption | omega)).mono ?_; rintro e w' ⟨rfl, rfl⟩) | (go_at_call 28; refine (num_calls _ _).mono ?_; rintro e w' ⟨rfl, rfl⟩))
      go_round
      case rel => exact ⟨n + 1, by omega, by go_num⟩
      case measure => simp [intOf]; omega
    · go_wp2
      go_ret
      exact ⟨rfl, HB0.out⟩
end Go.Proofs.Ytbbakifachemcaa
