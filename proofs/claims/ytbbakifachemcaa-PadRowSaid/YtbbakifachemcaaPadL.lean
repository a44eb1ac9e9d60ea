/- The walks of the laws of chapter 1. -/
import Derived.Test.YtbbakifachemcaaPad
namespace Go.Proofs.Ytbbakifachemcaa
open Go.RowKit Pad
set_option linter.unusedVariables false

set_option maxHeartbeats 1600000 in
set_option maxRecDepth 100000 in
theorem padAwake_calls (w : World) : Calls Try.prog 35 #[] w fun e w' => e = .returned (.bool true) ∧ Below w.heap.size w w' := by
  have h1 : up 9 = (16, 0) := by decide
  have h2 : add 2147483647 0 = (2147483647, 0) := by decide
  have h3 : add 2147483647 1 = (0, 100) := by decide
  have h4 : mul 65536 65536 = (0, 100) := by decide
  have h5 : up (-1) = (0, 100) := by decide
  have HB := Below.refl w.heap.size w
  go_enter Try.func35, Try.ntmps35
  go_wp2_with (first | (go_at_call 29; refine (padUp_calls _ _).mono ?_; rintro e w' ⟨rfl, hb⟩; replace HB := below_then HB hb; clear hb) | (go_at_call 31; refine (padAdd_calls _ _ _).mono ?_; rintro e w' ⟨rfl, hb⟩; replace HB := below_then HB hb; clear hb) | (go_at_call 33; refine (padMul_calls _ _ _).mono ?_; rintro e w' ⟨rfl, hb⟩; replace HB := below_then HB hb; clear hb) | go_in)
  go_ret
  exact ⟨rfl, HB⟩

set_option maxHeartbeats 1600000 in
set_option maxRecDepth 100000 in
theorem pads_walk (a b : Int) (W : World) (w0 : (Lit.int .i64 a).wf = true) (w1 : (Lit.int .i64 b).wf = true) :
    Calls Try.prog 8 #[.int .i64 a, .int .i64 b] W fun e w' => e = .returned (.bool true) ∧ Below W.heap.size W w' := by
  clear w0 w1
  have HB := Below.refl W.heap.size W
  go_enter Try.func8, Try.ntmps8
  go_wp2_with (first | (go_at_call 29; refine (padUp_calls _ _).mono ?_; rintro e w' ⟨rfl, hb⟩; replace HB := below_then HB hb; clear hb) | (go_at_call 30; refine (refUp_calls _ _).mono ?_; rintro e w' ⟨rfl, rfl⟩) | (go_at_call 31; refine (padAdd_calls _ _ _).mono ?_; rintro e w' ⟨rfl, hb⟩; replace HB := below_then HB hb; clear hb) | (go_at_call 32; refine (refAdd_calls _ _ _).mono ?_; rintro e w' ⟨rfl, rfl⟩) | (go_at_call 33; refine (padMul_calls _ _ _).mono ?_; rintro e w' ⟨rfl, hb⟩; replace HB := below_then HB hb; clear hb) | (go_at_call 34; refine (refMul_calls _ _ _).mono ?_; rintro e w' ⟨rfl, rfl⟩) | (go_at_call 35; refine (padAwake_calls _).mono ?_; rintro e w' ⟨rfl, hb⟩; replace HB := below_then HB hb; clear hb) | go_in)
  go_ret
  exact ⟨rfl, HB⟩

theorem up_small (k : Int) (h0 : 0 ≤ k) (h1 : k ≤ 2000000000) : up k = ((k + 8 - 1) / 8 * 8, 0) := by
  unfold up
  rw [(may_iff k).2 (by omega), (may_iff _).2 (by omega)]
  rfl
theorem up_up (k : Int) (h0 : 0 ≤ k) (h1 : k ≤ 1000000000) : up ((k + 8 - 1) / 8 * 8) = ((k + 8 - 1) / 8 * 8, 0) := by
  rw [up_small _ (by omega) (by omega)]
  congr 1
  omega
set_option maxHeartbeats 1600000 in
set_option maxRecDepth 100000 in
theorem padUp_walk (x : Int) (W : World) (w0 : (Lit.int .i64 x).wf = true) :
    Calls Try.prog 9 #[.int .i64 x] W fun e w' => e = .returned (.bool true) ∧ Below W.heap.size W w' := by
  clear w0
  obtain ⟨k0, k1⟩ := and_bd x 1048575 (by decide)
  have e : ((1048575 : Nat) : Int) = 1048575 := rfl
  rw [e] at k0 k1
  clear e
  have h1 := up_small (bits .and .i64 x 1048575) k0 (by omega)
  have h2 := up_up (bits .and .i64 x 1048575) k0 (by omega)
  have HB := Below.refl W.heap.size W
  generalize hk : bits .and .i64 x 1048575 = k at *
  have y0 : 0 ≤ (k + 8 - 1) / 8 * 8 := by omega
  have y1 : k ≤ (k + 8 - 1) / 8 * 8 := by omega
  have y2 : (k + 8 - 1) / 8 * 8 < k + 8 := by omega
  have y3 : (k + 8 - 1) / 8 * 8 % 8 = 0 := by omega
  generalize (k + 8 - 1) / 8 * 8 = y at *
  go_enter Try.func9, Try.ntmps9
  go_wp2_with (first | (go_at_call 29; refine (padUp_calls _ _).mono ?_; rintro e w' ⟨rfl, hb⟩; replace HB := below_then HB hb; clear hb) | (go_at_call 35; refine (padAwake_calls _).mono ?_; rintro e w' ⟨rfl, hb⟩; replace HB := below_then HB hb; clear hb) | go_in)
  go_ret
  exact ⟨ret_bool (by simp), HB⟩

set_option maxHeartbeats 1600000 in
set_option maxRecDepth 100000 in
theorem padSums_walk (a b : Int) (W : World) (w0 : (Lit.int .i64 a).wf = true) (w1 : (Lit.int .i64 b).wf = true) :
    Calls Try.prog 11 #[.int .i64 a, .int .i64 b] W fun e w' => e = .returned (.bool true) ∧ Below W.heap.size W w' := by
  clear w0 w1
  obtain ⟨x0, x1⟩ := and_bd a 32767 (by decide)
  obtain ⟨y0, y1⟩ := and_bd b 32767 (by decide)
  have e : ((32767 : Nat) : Int) = 32767 := rfl
  rw [e] at x0 x1 y0 y1
  clear e
  generalize hx : bits .and .i64 a 32767 = x at *
  generalize hy : bits .and .i64 b 32767 = y at *
  have m0 : 0 ≤ x * y := Int.mul_nonneg x0 y0
  have m1 : x * y ≤ 1073676289 := Int.le_trans (Int.mul_le_mul x1 y1 y0 (by decide)) (by decide)
  have hxy : y * x = x * y := Int.mul_comm y x
  have h1 : add x y = (x + y, 0) := by unfold add; rw [(may_iff x).2 (by omega), (may_iff y).2 (by omega), (may_iff (x + y)).2 (by omega)]; rfl
  have h2 : add y x = (x + y, 0) := by unfold add; rw [(may_iff x).2 (by omega), (may_iff y).2 (by omega), (may_iff (y + x)).2 (by omega), Int.add_comm]; rfl
  have h3 : mul x y = (x * y, 0) := by unfold mul; rw [(may_iff x).2 (by omega), (may_iff y).2 (by omega), (may_iff (x * y)).2 (by omega)]; rfl
  have h4 : mul y x = (x * y, 0) := by unfold mul; rw [(may_iff x).2 (by omega), (may_iff y).2 (by omega), hxy, (may_iff (x * y)).2 (by omega)]; rfl
  clear hxy
  have HB := Below.refl W.heap.size W
  go_enter Try.func11, Try.ntmps11
  go_wp2_with (first | (go_at_call 31; refine (padAdd_calls _ _ _).mono ?_; rintro e w' ⟨rfl, hb⟩; replace HB := below_then HB hb; clear hb) | (go_at_call 33; refine (padMul_calls _ _ _).mono ?_; rintro e w' ⟨rfl, hb⟩; replace HB := below_then HB hb; clear hb) | (go_at_call 35; refine (padAwake_calls _).mono ?_; rintro e w' ⟨rfl, hb⟩; replace HB := below_then HB hb; clear hb) | go_in)
  go_ret
  exact ⟨ret_bool (by simp), HB⟩
end Go.Proofs.Ytbbakifachemcaa
