/- The walks of the laws PadForms and PadRow. -/
import Derived.Test.YtbbakifachemcaaPadL
namespace Go.Proofs.Ytbbakifachemcaa
open Go.RowKit Pad
set_option linter.unusedVariables false

theorem and_one (x : Int) : bits .and .i64 x 1 = 0 ∨ bits .and .i64 x 1 = 1 := by
  have h := and_bd x 1 (by decide)
  have e : ((1 : Nat) : Int) = 1 := rfl
  rw [e] at h
  omega
theorem may_bad (b : Int) (h : b < 0 ∨ 2147483647 < b) : up b = (0, 100) ∧ add b 1 = (0, 100) ∧ add 1 b = (0, 100) ∧ mul b 0 = (0, 100) ∧ mul 0 b = (0, 100) := by
  have e := (may_not b).2 h
  unfold up add mul
  rw [e]
  exact ⟨rfl, rfl, tell_no (by simp), rfl, tell_no (by simp)⟩

set_option maxHeartbeats 3200000 in
set_option maxRecDepth 100000 in
theorem padForms_walk (which x : Int) (W : World) (w0 : (Lit.int .i64 which).wf = true) (w1 : (Lit.int .i64 x).wf = true) :
    Calls Try.prog 10 #[.int .i64 which, .int .i64 x] W fun e w' => e = .returned (.bool true) ∧ Below W.heap.size W w' := by
  clear w0 w1
  obtain ⟨x0, x1⟩ := and_bd x 1023 (by decide)
  have e : ((1023 : Nat) : Int) = 1023 := rfl
  rw [e] at x0 x1
  clear e
  generalize hx : bits .and .i64 x 1023 = d at *
  obtain ⟨a1, a2, a3, a4, a5⟩ := may_bad (-(1 + d)) (by omega)
  obtain ⟨b1, b2, b3, b4, b5⟩ := may_bad (2147483647 + (1 + d)) (by omega)
  have h6 : up 2147483641 = (0, 100) := by decide
  have h7 : up 2147483647 = (0, 100) := by decide
  have h8 : mul 0 2147483647 = (0, 0) := by decide
  have HB := Below.refl W.heap.size W
  rcases and_one which with h | h
  all_goals
    go_enter Try.func10, Try.ntmps10
    go_wp2_with (first | (go_at_call 29; refine (padUp_calls _ _).mono ?_; rintro e w' ⟨rfl, hb⟩; replace HB := below_then (by repeat (first | exact HB | apply below_alloc | apply below_drewN | apply below_drew)) hb; clear hb) | (go_at_call 31; refine (padAdd_calls _ _ _).mono ?_; rintro e w' ⟨rfl, hb⟩; replace HB := below_then (by repeat (first | exact HB | apply below_alloc | apply below_drewN | apply below_drew)) hb; clear hb) | (go_at_call 33; refine (padMul_calls _ _ _).mono ?_; rintro e w' ⟨rfl, hb⟩; replace HB := below_then (by repeat (first | exact HB | apply below_alloc | apply below_drewN | apply below_drew)) hb; clear hb) | (go_at_call 35; refine (padAwake_calls _).mono ?_; rintro e w' ⟨rfl, hb⟩; replace HB := below_then (by repeat (first | exact HB | apply below_alloc | apply below_drewN | apply below_drew)) hb; clear hb) | go_in)
    go_ret
    exact ⟨ret_bool (by simp), HB⟩

set_option maxHeartbeats 3200000 in
set_option maxRecDepth 100000 in
theorem padRow_walk (a : Option Addr) (len cap : Nat) (zs : List Int) (W : World) (hz : IntsAt .i64 W a len cap zs) :
    Calls Try.prog 12 #[.slice a len cap] W fun e w' => e = .returned (.bool true) ∧ Below W.heap.size W w' := by
  have HB := Below.refl W.heap.size W
  rcases hz with ⟨rfl, rfl, rfl, rfl⟩ | ⟨ad, rfl, hlc, hcm, hzl, hcell, hwf⟩
  · go_enter Try.func12, Try.ntmps12
    go_wp2_with (first | (go_at_call 35; refine (padAwake_calls _).mono ?_; rintro e w' ⟨rfl, hb⟩; replace HB := below_then (by repeat (first | exact HB | apply below_alloc | apply below_drewN | apply below_drew)) hb; clear hb) | go_in)
    refine wp_loop_rounds 1 ?_
    rw [rounds_succ]
    go_wp2
    go_ret
    exact ⟨rfl, HB⟩
  · have HC := Lib.hid hcell
    have HZ := Lib.hid hzl
    have hm : cap ≤ 9223372036854775807 := by unfold maxLen at hcm; omega
    clear hcell hzl hwf hcm
    go_enter Try.func12, Try.ntmps12
    go_wp2_with (first | (go_at_call 35; refine (padAwake_calls _).mono ?_; rintro e w' ⟨rfl, hb⟩; replace HB := below_then (by repeat (first | exact HB | apply below_alloc | apply below_drewN | apply below_drew)) hb; clear hb) | go_in)
    have HB0 := Lib.hid HB
    clear HB
    go_loopw [3, 4] (fun s i wr => ∃ (t : Int) (k : Nat), k ≤ len ∧ i = .int .i64 k ∧ s = .int .i64 t ∧ 0 ≤ t ∧ t ≤ 1073741824 ∧ Below W.heap.size W wr) (fun _ i _ => len - (intOf i).toNat)
    case atStart => exact ⟨0, 0, by omega, rfl, rfl, by omega, by omega, HB0.out⟩
    case round =>
      obtain ⟨t, k, hk, rfl, rfl, t0, t1, HB⟩ := hrel
      by_cases hlt : k < len
      · have hc := HB.cell (p := ad.add k) (by have := World.block_lt_of_cell? W _ (HC.out k (by have := HZ.out; omega)); exact this)
        rw [HC.out k (by have := HZ.out; omega)] at hc
        generalize zs.getD k 0 = z at hc
        obtain ⟨x0, x1⟩ := and_bd z 1048575 (by decide)
        have e : ((1048575 : Nat) : Int) = 1048575 := rfl
        rw [e] at x0 x1
        clear e
        generalize hx : bits .and .i64 z 1048575 = x at *
        have h1 : add t x = (t + x, 0) := by unfold add; rw [(may_iff t).2 (by omega), (may_iff x).2 (by omega), (may_iff (t + x)).2 (by omega)]; rfl
        have h2 := up_small (t + x) (by omega) (by omega)
        have y0 : 0 ≤ (t + x + 8 - 1) / 8 * 8 := by omega
        have y1 : t + x ≤ (t + x + 8 - 1) / 8 * 8 := by omega
        have y2 : (t + x + 8 - 1) / 8 * 8 < t + x + 8 := by omega
        have y3 : (t + x + 8 - 1) / 8 * 8 % 8 = 0 := by omega
        generalize (t + x + 8 - 1) / 8 * 8 = y at *
        go_wp2_with (first | (go_at_call 29; refine (padUp_calls _ _).mono ?_; rintro e w' ⟨rfl, hb⟩; replace HB := below_then (by repeat (first | exact HB | apply below_alloc | apply below_drewN | apply below_drew)) hb; clear hb) | (go_at_call 31; refine (padAdd_calls _ _ _).mono ?_; rintro e w' ⟨rfl, hb⟩; replace HB := below_then (by repeat (first | exact HB | apply below_alloc | apply below_drewN | apply below_drew)) hb; clear hb) | (go_at_call 35; refine (padAwake_calls _).mono ?_; rintro e w' ⟨rfl, hb⟩; replace HB := below_then (by repeat (first | exact HB | apply below_alloc | apply below_drewN | apply below_drew)) hb; clear hb) | go_in)
        · go_ret
          exact ⟨rfl, HB⟩
        · have h : y ≤ 1073741824 := by assumption
          go_roundw
          case rel => exact ⟨y, k + 1, by omega, by go_num, rfl, y0, h, HB⟩
          case measure => simp [intOf]; omega
      · go_wp2
        go_ret
        exact ⟨rfl, HB⟩
end Go.Proofs.Ytbbakifachemcaa
