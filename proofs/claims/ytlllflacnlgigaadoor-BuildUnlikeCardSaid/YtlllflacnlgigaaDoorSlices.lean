/- Package slices at chapter 10's types, walked. -/
import Derived.Test.YtlllflacnlgigaaDoorOwn
import Derived.Test.YtlllflacnlgigaaDoorBitsOf
import Derived.Test.YtlllflacnlgigaaDoorFits
namespace Go.Proofs.YtlllflacnlgigaaDoor
open Go.RowKit
set_option linter.unusedVariables false
set_option linter.unusedSimpArgs false

set_option maxHeartbeats 800000 in
theorem indexB_calls (v : Value) (xs : List Bool) (b : Bool) (base : Nat) (W : World) (ho : W.ownsRow base 4 1 v xs.length (bools xs)) :
    Calls Tryd.prog 83 #[v, .bool b] W fun e w' => ∃ r : Int, e = .returned (.int .i64 r) ∧ (0 ≤ r ↔ b ∈ xs) ∧ W = w' := by
  have hm := own_max ho
  unfold maxLen at hm
  obtain ⟨a, c, rfl⟩ := own_slice ho
  have HO := Lib.hid ho
  clear ho
  go_enter Tryd.func83, Tryd.ntmps83
  go_wp2
  go_loopw [5, 8] (fun _ i wr => ∃ k : Nat, k ≤ xs.length ∧ i = .int .i64 k ∧ W = wr ∧ (∀ j, j < k → xs[j]? ≠ some b)) (fun _ i _ => xs.length - (intOf i).toNat)
  case atStart => exact ⟨0, Nat.zero_le _, rfl, rfl, fun j h => absurd h (Nat.not_lt_zero _)⟩
  case round =>
    obtain ⟨k, hk, rfl, rfl, hall⟩ := hrel
    have HA := Lib.hid hall
    clear hall
    by_cases hlt : k < xs.length
    · obtain ⟨g, cap, hv, _, _, _, hrow⟩ := own_row HO.out (by omega)
      obtain ⟨rfl, _, rfl⟩ := Value.slice.inj hv
      have hx := List.getElem?_eq_getElem hlt
      have hc := hrow.cell (i := k) (v := .bool xs[k]) (by rw [bools, List.getElem?_map, hx]; rfl)
      have HX := Lib.hid hx
      clear hx hv hrow
      have hlti : (k : Int) < (xs.length : Int) := by omega
      generalize xs[k] = x at hc HX
      by_cases hxb : b = x
      · have hb : (b == x) = true := by simp [hxb]
        have HB := Lib.hid hxb
        clear hxb
        go_wp2
        go_ret
        refine ⟨_, rfl, ?_, rfl⟩
        rw [HB.out]
        exact ⟨fun _ => List.mem_of_getElem? HX.out, fun _ => by omega⟩
      · have hb : (b == x) = false := by simp [hxb]
        have HB := Lib.hid hxb
        clear hxb
        go_wp2
        have hnext : ∀ j, j < k + 1 → xs[j]? ≠ some b := fun j hj => by
          by_cases hjk : j = k
          · rw [hjk, HX.out]; exact fun h => HB.out (Option.some.inj h).symm
          · exact HA.out j (by omega)
        refine ⟨⟨k + 1, by omega, by go_num, ?_⟩, by simp [intOf]; omega⟩
        exact ⟨trivial, hnext⟩
    · obtain rfl : k = xs.length := by omega
      go_wp2
      go_ret
      refine ⟨_, rfl, ?_, rfl⟩
      refine ⟨fun h => absurd h (by omega), fun h => ?_⟩
      obtain ⟨j, hj⟩ := List.getElem?_of_mem h
      exact absurd hj (HA.out j (List.getElem?_eq_some_iff.1 hj).1)
theorem containsB_calls (v : Value) (xs : List Bool) (b : Bool) (base : Nat) (W : World) (ho : W.ownsRow base 4 1 v xs.length (bools xs)) :
    Calls Tryd.prog 68 #[v, .bool b] W fun e w' => e = .returned (.bool (xs.contains b)) ∧ W = w' := by
  have HI := Lib.hid (indexB_calls v xs b base W ho)
  obtain ⟨a, c, rfl⟩ := own_slice ho
  clear ho
  go_enter Tryd.func68, Tryd.ntmps68
  go_wp2_with (go_at_call 83; refine HI.out.mono ?_; rintro e w' ⟨r, rfl, hr, rfl⟩; have HR := Lib.hid hr; clear hr)
  go_ret
  exact ⟨ret_bool (by rw [Bool.eq_iff_iff, decide_eq_true_eq, HR.out, List.contains_iff_mem]), rfl⟩
end Go.Proofs.YtlllflacnlgigaaDoor
