/- The walks of crc.Sum and quiverref1.Crc: each returns the text's sum, for every text. -/
import Derived.Test.YtbbakifachemcaaProg
import Derived.Test.YtbbakifachemcaaCrcPure
import Derived.Test.YtbbakifachemcaaBase
namespace Go.Proofs.Ytbbakifachemcaa
open Go.RowKit Crc
set_option linter.unusedVariables false


theorem take_snoc (s : ByteArray) (k : Nat) (h : k < s.size) : s.data.toList.take (k + 1) = s.data.toList.take k ++ [s[k]] := by
  rw [List.take_succ_eq_append_getElem (by simpa using h)]; rfl
theorem byte_mod (c : UInt8) : (c.toNat : Int) % 4294967296 = c.toNat := by have := c.toNat_lt; omega
theorem fold_snoc (s : ByteArray) (k : Nat) (h : k < s.size) : (s.data.toList.take (k + 1)).foldl upd ones = it 8 ((s.data.toList.take k).foldl upd ones ^^^ by8 s[k]) := by
  rw [take_snoc s k h, List.foldl_append]; rfl
theorem fold_all (s : ByteArray) (k : Nat) (h : s.size ≤ k) : ((s.data.toList.take k).foldl upd ones ^^^ ones) = sumB s.data.toList := by
  rw [List.take_of_length_le (by simpa using h)]; rfl

set_option maxHeartbeats 800000 in
theorem crcSum_calls (s : ByteArray) (w : World) (hs : s.size ≤ maxLen) :
    Calls Try.prog 25 #[.string s] w fun e w' => e = .returned (.int .i64 (sumI s.data.toList)) ∧ w = w' := by
  unfold maxLen at hs
  go_enter Try.func25, Try.ntmps25
  go_wp2
  go_loop [3, 8] (fun x i => ∃ k : Nat, k ≤ s.size ∧ i = .int .i64 k ∧ x = .int .u32 (((s.data.toList.take k).foldl upd ones).toNat : Int)) (fun _ i => s.size - (intOf i).toNat)
  case atStart => exact ⟨0, Nat.zero_le _, rfl, rfl⟩
  case round =>
    obtain ⟨k, hk, rfl, rfl⟩ := hrel
    by_cases hlt : k < s.size
    · have Hx := Lib.hid (fold_snoc s k hlt)
      generalize (s.data.toList.take k).foldl upd ones = x at *
      go_wp2
      go_loop [3, 17] (fun y j => ∃ i : Nat, i ≤ 8 ∧ j = .int .i64 i ∧ y = .int .u32 ((it i (x ^^^ by8 s[k])).toNat : Int)) (fun _ j => 8 - (intOf j).toNat)
      case atStart => exact ⟨0, Nat.zero_le _, rfl, by rw [byte_mod, in_int]; rfl⟩
      case round =>
        obtain ⟨i, hi, rfl, rfl⟩ := hrel
        by_cases hl8 : i < 8
        · go_wp2
          go_round
          case rel => exact ⟨i + 1, by omega, by go_num, by rw [stepS, it_succ]⟩
          case measure => simp [intOf]; omega
        · obtain rfl : i = 8 := by omega
          go_wp2
          go_round
          case rel => exact ⟨k + 1, by omega, by go_num, by rw [Hx.out]⟩
          case measure => simp [intOf]; omega
    · go_wp2
      go_ret
      exact ⟨ret_i64 (by rw [out_int, fold_all s k (by omega), wrap_nat]; rfl), rfl⟩

set_option maxHeartbeats 800000 in
theorem refCrc_calls (s : ByteArray) (w : World) (hs : s.size ≤ maxLen) :
    Calls Try.prog 26 #[.string s] w fun e w' => e = .returned (.int .i64 (sumI s.data.toList)) ∧ w = w' := by
  unfold maxLen at hs
  go_enter Try.func26, Try.ntmps26
  go_wp2
  go_loop [3, 4] (fun x i => ∃ k : Nat, k ≤ s.size ∧ i = .int .i64 k ∧ x = .int .u32 (((s.data.toList.take k).foldl upd ones).toNat : Int)) (fun _ i => s.size - (intOf i).toNat)
  case atStart => exact ⟨0, Nat.zero_le _, rfl, rfl⟩
  case round =>
    obtain ⟨k, hk, rfl, rfl⟩ := hrel
    by_cases hlt : k < s.size
    · have Hx := Lib.hid (fold_snoc s k hlt)
      generalize (s.data.toList.take k).foldl upd ones = x at *
      go_wp2
      go_loop [3, 5] (fun y j => ∃ i : Nat, i ≤ 8 ∧ j = .int .i64 i ∧ y = .int .u32 ((it i (x ^^^ by8 s[k])).toNat : Int)) (fun _ j => 8 - (intOf j).toNat)
      case atStart => exact ⟨0, Nat.zero_le _, rfl, by rw [byte_mod, in_int]; rfl⟩
      case round =>
        obtain ⟨i, hi, rfl, rfl⟩ := hrel
        by_cases hl8 : i < 8
        · go_wp2
          all_goals
            rename_i hb
            go_round
            case rel => exact ⟨i + 1, by omega, by go_num, by rw [it_succ, ← stepR]; simp only [beq_iff_eq, beq_eq_false_iff_ne] at hb; simp only [hb, ↓reduceIte]⟩
            case measure => simp [intOf]; omega
        · obtain rfl : i = 8 := by omega
          go_wp2
          go_round
          case rel => exact ⟨k + 1, by omega, by go_num, by rw [Hx.out]⟩
          case measure => simp [intOf]; omega
    · go_wp2
      go_ret
      exact ⟨ret_i64 (by rw [out_int', fold_all s k (by omega), wrap_nat]; rfl), rfl⟩
end Go.Proofs.Ytbbakifachemcaa
