/- The walk of the law CrcTurned. -/
import Derived.Test.YtbbakifachemcaaCrcL
import Derived.BigRegion
namespace Go.Proofs.Ytbbakifachemcaa
open Go.RowKit Crc
set_option linter.unusedVariables false

def at0 (s : ByteArray) (i : Nat) : UInt8 := s.data.toList.getD i 0
def three (s t u : ByteArray) (i : Nat) : UInt8 := at0 s i ^^^ at0 t i ^^^ at0 u i
theorem at0_get (s : ByteArray) (i : Nat) (h : i < s.size) : s[i] = at0 s i := by
  have hl : i < s.data.size := h
  simp only [at0, List.getD, Array.getElem?_toList, Array.getElem?_eq_getElem hl, Option.getD_some]; rfl
theorem three_list : ∀ (k : Nat) (s t u : List UInt8), k ≤ s.length → k ≤ t.length → k ≤ u.length →
    (List.range k).map (fun i => s.getD i 0 ^^^ t.getD i 0 ^^^ u.getD i 0) = xor3 (s.take k) (t.take k) (u.take k)
  | 0, _, _, _, _, _, _ => by simp [xor3]
  | k + 1, p :: s, q :: t, r :: u, h0, h1, h2 => by
    rw [List.range_succ_eq_map, List.map_cons, List.map_map]
    simp only [List.take_succ_cons, xor3]
    rw [← three_list k s t u (by simpa using h0) (by simpa using h1) (by simpa using h2)]
    simp [Function.comp_def]
theorem data_length (s : ByteArray) : s.data.toList.length = s.size := by rw [Array.length_toList]; rfl
theorem info_u8 : (Try.prog.info? 5).map (fun i => (i.zero, i.size, i.bytes)) = some (some (.int .u8 0), 1, 1) := by kernel_rfl
theorem sum_xor (s t u : ByteArray) (k : Nat) (h0 : k ≤ s.size) (h1 : k ≤ t.size) (h2 : k ≤ u.size) :
    sumI ((List.range k).map (three s t u)) = bits .xor .i64 (bits .xor .i64 (sumI (s.data.toList.take k)) (sumI (t.data.toList.take k))) (sumI (u.data.toList.take k)) := by
  have e : (List.range k).map (three s t u) = xor3 (s.data.toList.take k) (t.data.toList.take k) (u.data.toList.take k) :=
    three_list k _ _ _ (by rw [data_length]; exact h0) (by rw [data_length]; exact h1) (by rw [data_length]; exact h2)
  have hl : ∀ b : ByteArray, k ≤ b.size → (b.data.toList.take k).length = k := fun b hb => by rw [List.length_take, data_length]; omega
  rw [e]
  unfold sumI
  rw [sum_three _ _ _ (by rw [hl s h0, hl t h1]) (by rw [hl t h1, hl u h2])]
  generalize sumB (s.data.toList.take k) = a
  generalize sumB (t.data.toList.take k) = b
  generalize sumB (u.data.toList.take k) = c
  have ha := a.isLt
  have hb := b.isLt
  have hc := c.isLt
  rw [i64_xor_nat _ _ (by omega) (by omega), ← BitVec.toNat_xor, i64_xor_nat _ _ (by have := (a ^^^ b).isLt; omega) (by omega), ← BitVec.toNat_xor]

set_option maxHeartbeats 1600000 in
theorem crcTurned_walk (s t u : ByteArray) (W : World) (w0 : s.size ≤ 140737488351232) (w1 : t.size ≤ 140737488351232) (w2 : u.size ≤ 140737488351232) :
    Calls Try.prog 7 #[.string s, .string t, .string u] W fun e w' => e = .returned (.bool true) ∧ Below W.heap.size W w' := by
  have hmin := fun w => run_min3 (P := Try.prog) #[3, 3, 3] 3 s.size t.size u.size w
  have l0 : min (min s.size t.size) u.size ≤ s.size := by omega
  have l1 : min (min s.size t.size) u.size ≤ t.size := by omega
  have l2 : min (min s.size t.size) u.size ≤ u.size := by omega
  generalize min (min s.size t.size) u.size = k at hmin l0 l1 l2
  have hmk := fun w => run_makeBytes (P := Try.prog) 25 5 Try.underlying25 info_u8 k (by omega) w
  go_enter Try.func7, Try.ntmps7
  go_wp2_with (go_at_call 27; refine (crcAwake_calls _).mono ?_; rintro e w' ⟨rfl, rfl⟩)
  clear hmk hmin
  go_loopw [9] (fun i wr => ∃ n : Nat, n ≤ k ∧ i = .int .i64 n ∧ Row wr W.heap.size 5 ((fill k n (three s t u) (fun _ => 0)).map bv) ∧ Below W.heap.size W wr) (fun i _ => k - (intOf i).toNat)
  case atStart => exact ⟨0, Nat.zero_le _, rfl, by have := Row.new W 5 (List.map bv (List.replicate k 0)).toArray; simpa [fill_none, List.map_const'] using this, (Below.refl _ _).alloc (Nat.le_refl _) _⟩
  case round =>
    obtain ⟨n, hn, rfl, hrow, hb⟩ := hrel
    have hl := fill_length k n (three s t u) (fun _ => 0)
    by_cases hlt : n < k
    · obtain ⟨v0, hc⟩ := hrow.has (i := n) (by rw [List.length_map]; omega)
      have hf := hrow.free (i := n) (by rw [List.length_map]; omega)
      have b0 : (n : Int) < (s.size : Int) := by omega
      have b1 : (n : Int) < (t.size : Int) := by omega
      have b2 : (n : Int) < (u.size : Int) := by omega
      have HR := Lib.hid hrow
      clear hrow hl
      go_wp2
      go_region
      go_wp2
      go_roundw
      case rel =>
        refine ⟨n + 1, by omega, by go_num, ?_, (hb.setCell (Nat.le_refl _) _).drew⟩
        rw [u8_xor_b, u8_xor_b, at0_get s n (by omega), at0_get t n (by omega), at0_get u n (by omega)]
        have := (HR.out.set n (bv (three s t u n))).drew
        rwa [← List.map_set, fill_set _ _ _ _ _ rfl] at this
      case measure => simp [intOf]; omega
    · obtain rfl : n = k := by omega
      have hs := fun q => run_string (P := Try.prog) (w := wr.drewN q) 25 9 5 Try.underlying25 Try.underlying5 Try.underlying9 W.heap.size n n _ hl.symm hrow
      rw [fill_all _ _ _ _ (Nat.le_refl _)] at hs
      have HX := Lib.hid (sum_xor s t u n l0 l1 l2)
      have HB := Lib.hid hb
      clear hrow hl hb
      go_wp2
      go_quiet ((first | (go_at_call 25; exact qcall0 (crcSum_calls _ _ (by first | exact size_mk _ (by simp; omega) | exact size_cut _ _ _ (by omega)))) | (go_at_call 28; exact qcall0 (num_calls _ _))))
      go_wp2
      go_ret
      exact ⟨ret_bool (by rw [HX.out]; simp), below_drewN HB.out _⟩
end Go.Proofs.Ytbbakifachemcaa
