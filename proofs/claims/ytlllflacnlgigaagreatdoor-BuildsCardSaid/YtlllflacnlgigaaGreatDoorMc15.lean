/- Several texts in one: Slices, Word. -/
import Derived.Test.YtlllflacnlgigaaGreatDoorMc11
import Derived.Test.YtlllflacnlgigaaGreatDoorMc13
import Derived.Test.YtlllflacnlgigaaGreatDoorMc14
import Derived.Test.YtlllflacnlgigaaGreatDoorMc10
import Derived.Test.YtlllflacnlgigaaGreatDoorMc1
/- Package slices at chapter 10's types, walked. -/
namespace Go.Proofs.YtlllflacnlgigaaGreatDoor
open Go.RowKit
set_option linter.unusedVariables false
set_option linter.unusedSimpArgs false

set_option maxHeartbeats 800000 in
theorem indexB_calls (v : Value) (xs : List Bool) (b : Bool) (base : Nat) (W : World) (ho : W.ownsRow base 4 1 v xs.length (bools xs)) :
    Calls Tryz.prog 121 #[v, .bool b] W fun e w' => ∃ r : Int, e = .returned (.int .i64 r) ∧ (0 ≤ r ↔ b ∈ xs) ∧ W = w' := by
  have hm := own_max ho
  unfold maxLen at hm
  obtain ⟨a, c, rfl⟩ := own_slice ho
  have HO := Lib.hid ho
  clear ho
  go_enter Tryz.func121, Tryz.ntmps121
  go_wp2
  go_loopw [5, 8] (fun _ i wr => ∃ k : Nat, k ≤ xs.length ∧ i = .int .i64 k ∧ W = wr ∧ (∀ j, j < k → xs[j]? ≠ some b)) (fun _ i _ => xs.length - (intOf i).toNat)
  case atStart => exact ⟨0, Nat.zero_le _, rfl, rfl, fun j h => absurd h (Nat.not_lt_zero _)⟩
  case round =>
    obtain ⟨k, hk, rfl, rfl, hall⟩ := hrel
    have HA := Lib.hid hall
    clear hall
    by_cases hlt : k < xs.length
    · obtain ⟨g, cap, hv, _, _, _, hrow⟩ := own_row HO.out (by omega)
      obtain ⟨rfl, _, rfl⟩ := Value.slice.inj hv
      have hx := List.getElem?_eq_getElem hlt
      have hc := hrow.cell (i := k) (v := .bool xs[k]) (by rw [bools, List.getElem?_map, hx]; rfl)
      have HX := Lib.hid hx
      clear hx hv hrow
      have hlti : (k : Int) < (xs.length : Int) := by omega
      generalize xs[k] = x at hc HX
      by_cases hxb : b = x
      · have hb : (b == x) = true := by simp [hxb]
        have HB := Lib.hid hxb
        clear hxb
        go_wp2
        go_ret
        refine ⟨_, rfl, ?_, rfl⟩
        rw [HB.out]
        exact ⟨fun _ => List.mem_of_getElem? HX.out, fun _ => by omega⟩
      · have hb : (b == x) = false := by simp [hxb]
        have HB := Lib.hid hxb
        clear hxb
        go_wp2
        have hnext : ∀ j, j < k + 1 → xs[j]? ≠ some b := fun j hj => by
          by_cases hjk : j = k
          · rw [hjk, HX.out]; exact fun h => HB.out (Option.some.inj h).symm
          · exact HA.out j (by omega)
        refine ⟨⟨k + 1, by omega, by go_num, ?_⟩, by simp [intOf]; omega⟩
        exact ⟨trivial, hnext⟩
    · obtain rfl : k = xs.length := by omega
      go_wp2
      go_ret
      refine ⟨_, rfl, ?_, rfl⟩
      refine ⟨fun h => absurd h (by omega), fun h => ?_⟩
      obtain ⟨j, hj⟩ := List.getElem?_of_mem h
      exact absurd hj (HA.out j (List.getElem?_eq_some_iff.1 hj).1)
theorem containsB_calls (v : Value) (xs : List Bool) (b : Bool) (base : Nat) (W : World) (ho : W.ownsRow base 4 1 v xs.length (bools xs)) :
    Calls Tryz.prog 103 #[v, .bool b] W fun e w' => e = .returned (.bool (xs.contains b)) ∧ W = w' := by
  have HI := Lib.hid (indexB_calls v xs b base W ho)
  obtain ⟨a, c, rfl⟩ := own_slice ho
  clear ho
  go_enter Tryz.func103, Tryz.ntmps103
  go_wp2_with (go_at_call 121; refine HI.out.mono ?_; rintro e w' ⟨r, rfl, hr, rfl⟩; have HR := Lib.hid hr; clear hr)
  go_ret
  exact ⟨ret_bool (by rw [Bool.eq_iff_iff, decide_eq_true_eq, HR.out, List.contains_iff_mem]), rfl⟩
end Go.Proofs.YtlllflacnlgigaaGreatDoor

/- num.Word, walked. -/
namespace Go.Proofs.YtlllflacnlgigaaGreatDoor
open Go.RowKit
set_option linter.unusedVariables false
set_option linter.unusedSimpArgs false

theorem bv_word (x : Int) (i : Nat) : bv (wordB x i) = .int .u8 (x / 2 ^ (8 * i) % 256) := by
  unfold bv wordB
  generalize x / 2 ^ (8 * i) = y
  have h : (UInt8.ofNat (y % 256).toNat).toNat = (y % 256).toNat := by
    rw [UInt8.toNat_ofNat']
    exact Nat.mod_eq_of_lt (by omega)
  rw [h]
  congr 1
  omega
theorem info_u8_ : (Tryz.prog.info? 5).map (fun i => (i.zero, i.size, i.bytes)) = some (some (.int .u8 0), 1, 1) := by kernel_rfl
set_option maxHeartbeats 1600000 in
theorem word_calls (x : Int) (n : Nat) (W : World) (hp : 0 < n) (hn : n ≤ 8) (h0 : -9223372036854775808 ≤ x) (h1 : x ≤ 9223372036854775807) :
    Calls Tryz.prog 105 #[.int .i64 x, .int .i64 (n : Int)] W fun e w' => e = .returned (tv (word x n)) ∧ Below W.heap.size W w' := by
  have hmk := fun w => run_makeBytes (P := Tryz.prog) 92 5 Tryz.underlying92 info_u8_ n (by omega) w
  have HK := Lib.hid (fill_none n (wordB x) (fun _ => (0 : UInt8)))
  have HA := Lib.hid (fill_all n n (wordB x) (fun _ => (0 : UInt8)) (Nat.le_refl _))
  go_enter Tryz.func105, Tryz.ntmps105
  go_wp2
  clear hmk
  go_loopw [6, 11] (fun _ i wr => ∃ k : Nat, k ≤ n ∧ i = .int .i64 k ∧ Row wr W.heap.size 5 ((fill n k (wordB x) (fun _ => 0)).map bv) ∧ Below W.heap.size W wr) (fun _ i _ => n - (intOf i).toNat)
  case atStart => exact ⟨0, Nat.zero_le _, rfl, by have := Row.new W 5 (List.map bv (List.replicate n 0)).toArray; rw [HK.out]; simpa [List.map_const'] using this, (Below.refl _ _).alloc (Nat.le_refl _) _⟩
  case round =>
    obtain ⟨k, hk, rfl, hout, hb⟩ := hrel
    have hfl := fill_length n k (wordB x) (fun _ => (0 : UInt8))
    by_cases hlt : k < n
    · have hlti : (k : Int) < (n : Int) := by omega
      have hf := hout.free (i := k) (by rw [List.length_map, hfl]; exact hlt)
      obtain ⟨v0, hc⟩ := hout.has (i := k) (by rw [List.length_map, hfl]; exact hlt)
      have HR := Lib.hid hout
      clear hout hfl
      go_wp2
      refine ⟨⟨k + 1, by omega, by go_num, ?_, hb.setCell (Nat.le_refl _) _⟩, by simp [intOf]; omega⟩
      have := HR.out.set k (bv (wordB x k))
      rw [← List.map_set, fill_set _ _ _ _ _ rfl, bv_word] at this
      exact this
    · obtain rfl : k = n := by omega
      have hs := run_string (P := Tryz.prog) (w := wr) 92 9 5 Tryz.underlying92 Tryz.underlying5 Tryz.underlying9 W.heap.size k k _ hfl.symm hout
      go_wp2
      go_ret
      exact ⟨by rw [HA.out]; rfl, hb⟩
end Go.Proofs.YtlllflacnlgigaaGreatDoor
