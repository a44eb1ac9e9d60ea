/- The walk of the law CrcBurst. -/
import Derived.Test.YtbbakifachemcaaCrcT
import Derived.Test.YtbbakifachemcaaCrcBurstPure
namespace Go.Proofs.Ytbbakifachemcaa
open Go.RowKit Crc
set_option linter.unusedVariables false

theorem u64w (x : Int) : IntKind.u64.wrap x = x % 18446744073709551616 := by simp [IntKind.wrap, IntKind.bits, IntKind.signed]
theorem modn (a : Int) (m : Nat) (h0 : 3 < m) (h : m ≤ 4611686018427387904) : ∃ i : Nat, i + 3 < m ∧ wrap64 ((IntKind.u64.wrap a).tmod ((m : Int) - 3)) = i := by
  rw [u64w, tmod_of_emod]
  have h1 := Int.emod_nonneg (a % 18446744073709551616) (b := (m : Int) - 3) (by omega)
  have h2 := Int.emod_lt_of_pos (a % 18446744073709551616) (b := (m : Int) - 3) (by omega)
  refine ⟨(a % 18446744073709551616 % ((m : Int) - 3)).toNat, by omega, ?_⟩
  unfold wrap64
  omega
theorem some32 (a : Int) : ∃ x : BitVec 32, x ≠ 0#32 ∧ wrap64 (1 + wrap64 ((IntKind.u64.wrap a).tmod 4294967295)) = (x.toNat : Int) := by
  rw [u64w, tmod_of_emod]
  have h1 : 0 ≤ a % 18446744073709551616 % 4294967295 := by omega
  have h2 : a % 18446744073709551616 % 4294967295 < 4294967295 := by omega
  generalize a % 18446744073709551616 % 4294967295 = y at h1 h2
  have e : (BitVec.ofNat 32 (y + 1).toNat).toNat = (y + 1).toNat := by rw [BitVec.toNat_ofNat, Nat.mod_eq_of_lt (by omega)]
  refine ⟨BitVec.ofNat 32 (y + 1).toNat, ?_, ?_⟩
  · intro h
    rw [h] at e
    have : (0#32).toNat = 0 := rfl
    omega
  · rw [e]
    unfold wrap64
    omega

set_option maxHeartbeats 1600000 in
theorem crcBurst_walk (s : ByteArray) (at_ by_ : Int) (W : World) (w0 : s.size ≤ 140737488351232) (w1 : (Lit.int .i64 at_).wf = true) (w2 : (Lit.int .i64 by_).wf = true) :
    Calls Try.prog 5 #[.string s, .int .i64 at_, .int .i64 by_] W fun e w' => e = .returned (.bool true) ∧ Below W.heap.size W w' := by
  by_cases h4 : s.size < 4
  · go_enter Try.func5, Try.ntmps5
    go_wp2_with (go_at_call 27; refine (crcAwake_calls _).mono ?_; rintro e w' ⟨rfl, rfl⟩)
    go_ret
    exact ⟨rfl, Below.refl _ _⟩
  by_cases h3 : 300 < s.size
  · go_enter Try.func5, Try.ntmps5
    go_wp2_with (go_at_call 27; refine (crcAwake_calls _).mono ?_; rintro e w' ⟨rfl, rfl⟩)
    go_ret
    exact ⟨rfl, Below.refl _ _⟩
  have hcv := fun w => Lib.run_convert_string_bytes (P := Try.prog) w 9 25 5 s Try.underlying9 Try.underlying25 Try.underlying5
  go_enter Try.func5, Try.ntmps5
  go_wp2_with (go_at_call 27; refine (crcAwake_calls _).mono ?_; rintro e w' ⟨rfl, rfl⟩)
  clear hcv
  obtain ⟨i, hi, ei⟩ := modn at_ s.size (by omega) (by omega)
  obtain ⟨x, hx, ex⟩ := some32 by_
  simp only [ei, ex]
  clear ei ex
  have hl := data_length s
  have HS := Lib.hid (sum_burst s.data.toList i x hx (by omega))
  have hx := x.isLt
  generalize hy : x.toNat = y at hx
  have HY := Lib.hid hy
  clear hy
  go_loopw [10] (fun c wr => ∃ n : Nat, n ≤ 4 ∧ c = .int .i64 n ∧ Row wr W.heap.size 5 ((burst s.data.toList i n (byt x)).map bv) ∧ Below W.heap.size W wr) (fun c _ => 4 - (intOf c).toNat)
  case atStart => exact ⟨0, by omega, rfl, by rw [burst_zero]; exact Row.bytes 5 s, bytes_below (Below.refl _ _) (Nat.le_refl _) _ _⟩
  case round =>
    obtain ⟨n, hn, rfl, hrow, hb⟩ := hrel
    have hbl := burst_length s.data.toList i n (byt x)
    by_cases hlt : n < 4
    · have hv := hrow.cell (i := i + n) (v := bv (s.data.toList[i + n]'(by omega))) (by rw [List.getElem?_map, burst_at _ _ _ _ (by omega)]; rfl)
      have hf := hrow.free (i := i + n) (by rw [List.length_map]; omega)
      have HR := Lib.hid hrow
      have HT := Lib.hid (burst_set s.data.toList i n (byt x) (by omega))
      clear hrow
      generalize s.data.toList[i + n]'(by omega) = c0 at *
      have hbi : ((i : Int) + (n : Int)) < (s.size : Int) := by omega
      have hlow : 0 ≤ (i : Int) + (n : Int) := by omega
      have htn : ((i : Int) + (n : Int)).toNat = i + n := by omega
      have hc255 := c0.toNat_lt
      unfold bv at hv
      go_wp2
      go_region
      go_wp2
      go_roundw
      case rel =>
        refine ⟨n + 1, by omega, by go_num, ?_, (hb.setCell (Nat.le_refl _) _).drew⟩
        have hB : ((y : Int) / 2 ^ (8 * n) % 256) = ((byt x n).toNat : Int) := by
          rw [← HY.out]
          unfold byt
          rw [UInt8.toNat_ofNat']
          simp
        rw [hB, u8_xor_b]
        have := (HR.out.set (i + n) (bv (c0 ^^^ byt x n))).drew
        rwa [← List.map_set, HT.out] at this
      case measure => simp [intOf]; omega
    · obtain rfl : n = 4 := by omega
      have hs := run_string (P := Try.prog) (w := wr) 25 9 5 Try.underlying25 Try.underlying5 Try.underlying9 W.heap.size s.size (grownCap W s.size 0 5) (burst s.data.toList i 4 (byt x)) (by rw [hbl, hl]) hrow
      have hsz := size_mk (burst s.data.toList i 4 (byt x)) (by omega)
      have bd := sumI_bd s.data.toList
      have b1 := bd.1
      have b2 := bd.2
      have hne : (sumI s.data.toList == sumI (burst s.data.toList i 4 (byt x))) = false := by rw [beq_eq_false_iff_ne]; exact HS.out
      have hne' : (sumI s.data.toList != sumI (burst s.data.toList i 4 (byt x))) = true := by rw [bne_iff_ne]; exact HS.out
      clear hrow bd
      generalize hB : burst s.data.toList i 4 (byt x) = l' at *
      clear hB
      have hs0 : s.size ≤ maxLen := by unfold maxLen; omega
      go_wp2_with (go_at_call 25; refine (crcSum_calls _ _ (by assumption)).mono ?_; rintro e w' ⟨rfl, rfl⟩)
      go_ret
      exact ⟨rfl, hb⟩
end Go.Proofs.Ytbbakifachemcaa
