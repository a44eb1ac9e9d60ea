/- num.Word, walked. -/
import Derived.Test.YtlllflacnlgigaaDoorApp
import Derived.Test.YtlllflacnlgigaaDoorBldPure
namespace Go.Proofs.YtlllflacnlgigaaDoor
open Go.RowKit
set_option linter.unusedVariables false
set_option linter.unusedSimpArgs false

theorem bv_word (x : Int) (i : Nat) : bv (wordB x i) = .int .u8 (x / 2 ^ (8 * i) % 256) := by
  unfold bv wordB
  generalize x / 2 ^ (8 * i) = y
  have h : (UInt8.ofNat (y % 256).toNat).toNat = (y % 256).toNat := by
    rw [UInt8.toNat_ofNat']
    exact Nat.mod_eq_of_lt (by omega)
  rw [h]
  congr 1
  omega
theorem info_u8_ : (Tryd.prog.info? 5).map (fun i => (i.zero, i.size, i.bytes)) = some (some (.int .u8 0), 1, 1) := by kernel_rfl
set_option maxHeartbeats 1600000 in
theorem word_calls (x : Int) (n : Nat) (W : World) (hp : 0 < n) (hn : n ≤ 8) (h0 : -9223372036854775808 ≤ x) (h1 : x ≤ 9223372036854775807) :
    Calls Tryd.prog 70 #[.int .i64 x, .int .i64 (n : Int)] W fun e w' => e = .returned (tv (word x n)) ∧ Below W.heap.size W w' := by
  have hmk := fun w => run_makeBytes (P := Tryd.prog) 55 5 Tryd.underlying55 info_u8_ n (by omega) w
  have HK := Lib.hid (fill_none n (wordB x) (fun _ => (0 : UInt8)))
  have HA := Lib.hid (fill_all n n (wordB x) (fun _ => (0 : UInt8)) (Nat.le_refl _))
  go_enter Tryd.func70, Tryd.ntmps70
  go_wp2
  clear hmk
  go_loopw [6, 11] (fun _ i wr => ∃ k : Nat, k ≤ n ∧ i = .int .i64 k ∧ Row wr W.heap.size 5 ((fill n k (wordB x) (fun _ => 0)).map bv) ∧ Below W.heap.size W wr) (fun _ i _ => n - (intOf i).toNat)
  case atStart => exact ⟨0, Nat.zero_le _, rfl, by have := Row.new W 5 (List.map bv (List.replicate n 0)).toArray; rw [HK.out]; simpa [List.map_const'] using this, (Below.refl _ _).alloc (Nat.le_refl _) _⟩
  case round =>
    obtain ⟨k, hk, rfl, hout, hb⟩ := hrel
    have hfl := fill_length n k (wordB x) (fun _ => (0 : UInt8))
    by_cases hlt : k < n
    · have hlti : (k : Int) < (n : Int) := by omega
      have hf := hout.free (i := k) (by rw [List.length_map, hfl]; exact hlt)
      obtain ⟨v0, hc⟩ := hout.has (i := k) (by rw [List.length_map, hfl]; exact hlt)
      have HR := Lib.hid hout
      clear hout hfl
      go_wp2
      refine ⟨⟨k + 1, by omega, by go_num, ?_, hb.setCell (Nat.le_refl _) _⟩, by simp [intOf]; omega⟩
      have := HR.out.set k (bv (wordB x k))
      rw [← List.map_set, fill_set _ _ _ _ _ rfl, bv_word] at this
      exact this
    · obtain rfl : k = n := by omega
      have hs := run_string (P := Tryd.prog) (w := wr) 55 9 5 Tryd.underlying55 Tryd.underlying5 Tryd.underlying9 W.heap.size k k _ hfl.symm hout
      go_wp2
      go_ret
      exact ⟨by rw [HA.out]; rfl, hb⟩
end Go.Proofs.YtlllflacnlgigaaDoor
