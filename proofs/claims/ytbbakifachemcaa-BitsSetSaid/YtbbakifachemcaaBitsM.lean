/- The walks of the laws of chapter 2 that go bit by bit, or copy copies. -/
import Derived.Test.YtbbakifachemcaaBitsL
namespace Go.Proofs.Ytbbakifachemcaa
open Go.RowKit Bt
set_option linter.unusedVariables false

theorem copy_ok (l : List UInt8) (n : Nat) (o c : Int) (a b : Nat) (ho : o = a) (hc : c = b) (h : a + b ≤ 8 * n) : copyR l n o c = (packed (some_ l a b), 0) := by
  subst ho
  subst hc
  unfold copyR
  rw [if_pos (by unfold okR; omega)]
  simp
theorem get_ok (l : List UInt8) (n : Nat) (x : Int) (a : Nat) (hx : x = a) (h : a < 8 * n) : getR l n x = (bit l a, 0) := by
  subst hx
  unfold getR
  rw [if_pos (by omega)]
  simp
theorem packed_length (xs : List Bool) : (packed xs).length = (xs.length + 7) / 8 := bytesOf_length _ _
theorem some_of_packed (l : List UInt8) (o n a b : Nat) (h : a + b ≤ n) : some_ (packed (some_ l o n)) a b = some_ l (o + a) b := by
  unfold some_
  apply List.map_congr_left
  intro i hi
  have hi := List.mem_range.1 hi
  rw [packed_bit, List.getD_eq_getElem?_getD, List.getElem?_map, List.getElem?_range (by omega)]
  simp [Nat.add_assoc]
theorem some_getD (l : List UInt8) (o n i : Nat) : (some_ l o n).getD i false = if i < n then bit l (o + i) else false := by
  unfold some_
  rw [List.getD_eq_getElem?_getD, List.getElem?_map]
  by_cases h : i < n
  · rw [List.getElem?_range h, if_pos h]; rfl
  · rw [List.getElem?_eq_none (by simpa using h), if_neg h]; rfl
theorem ones_packed (l : List UInt8) (o n : Nat) : ones (packed (some_ l o n)) 0 (8 * (packed (some_ l o n)).length) = ones l o n := by
  have hl : (packed (some_ l o n)).length = (n + 7) / 8 := by rw [packed_length, some_length]
  obtain ⟨d, hd⟩ : ∃ d, 8 * ((n + 7) / 8) = n + d := ⟨8 * ((n + 7) / 8) - n, by omega⟩
  rw [hl, hd, ones_add, Nat.zero_add]
  have h1 : ones (packed (some_ l o n)) 0 n = ones l o n := by
    unfold ones
    rw [some_of_packed l o n 0 n (by omega), Nat.add_zero]
  have h2 : ones (packed (some_ l o n)) n d = 0 := by
    unfold ones
    rw [List.count_eq_zero]
    intro hm
    unfold some_ at hm
    obtain ⟨i, _, hi⟩ := List.mem_map.1 hm
    change bit (packed (some_ l o n)) (n + i) = true at hi
    rw [packed_bit, some_getD, if_neg (by omega)] at hi
    cases hi
  rw [h1, h2, Nat.add_zero]

set_option maxHeartbeats 3200000 in
set_option maxRecDepth 100000 in
theorem bitsTwice_walk (s : ByteArray) (from_ count more : Int) (W : World) (w0 : s.size ≤ 17592186044415) (w1 : (Lit.int .i64 from_).wf = true) (w2 : (Lit.int .i64 count).wf = true) (w3 : (Lit.int .i64 more).wf = true) :
    Calls Try.prog 18 #[.string s, .int .i64 from_, .int .i64 count, .int .i64 more] W fun e w' => e = .returned (.bool true) ∧ Below W.heap.size W w' := by
  have HB := Below.refl W.heap.size W
  have hs : s.size ≤ 140737488351232 := by omega
  clear w1 w2 w3
  obtain ⟨i, i0, i1, e1⟩ := modI from_ (8 * (s.size : Int) + 1) (by omega) (by omega)
  obtain ⟨i, rfl⟩ := Int.eq_ofNat_of_zero_le i0
  obtain ⟨k, k0, k1, e2⟩ := modI count (8 * (s.size : Int) - i + 1) (by omega) (by omega)
  obtain ⟨k, rfl⟩ := Int.eq_ofNat_of_zero_le k0
  obtain ⟨j, j0, j1, e3⟩ := modI more ((k : Int) + 1) (by omega) (by omega)
  obtain ⟨j, rfl⟩ := Int.eq_ofNat_of_zero_le j0
  have hl : (packed (some_ s.data.toList i k)).length = (k + 7) / 8 := by rw [packed_length, some_length]
  have h1 := copy_ok s.data.toList s.size i k i k rfl rfl (by omega)
  have h2 := copy_ok (packed (some_ s.data.toList i k)) ((k + 7) / 8) j ((k : Int) - j) j (k - j) rfl (by omega) (by omega)
  rw [some_of_packed _ _ _ _ _ (by omega)] at h2
  have h3 := copy_ok s.data.toList s.size ((i : Int) + j) ((k : Int) - j) (i + j) (k - j) (by omega) (by omega) (by omega)
  have hz : (⟨(packed (some_ s.data.toList i k)).toArray⟩ : ByteArray).size ≤ 140737488351232 := by simp [ByteArray.size]; omega
  generalize packed (some_ s.data.toList i k) = A at *
  generalize packed (some_ s.data.toList (i + j) (k - j)) = B at *
  go_enter Try.func18, Try.ntmps18
  go_wp2_with (first | (go_at_call 42; refine (bitsCopy_calls _ _ _ _ (by first | assumption | (simp [ByteArray.size]; done)) (by first | assumption | omega) (by first | assumption | (intro h; unfold okR at h; omega) | (intro _; decide))).mono ?_; rintro e w' ⟨rfl, hb⟩; replace HB := below_then (by repeat (first | exact HB | apply below_alloc | apply below_drewN | apply below_drew)) hb; clear hb) | (go_at_call 44; refine (bitsAwake_calls _).mono ?_; rintro e w' ⟨rfl, hb⟩; replace HB := below_then (by repeat (first | exact HB | apply below_alloc | apply below_drewN | apply below_drew)) hb; clear hb) | (go_at_call 28; refine (num_calls _ _).mono ?_; rintro e w' ⟨rfl, rfl⟩))
  go_ret
  exact ⟨ret_bool (by simp), HB⟩

set_option maxHeartbeats 3200000 in
set_option maxRecDepth 100000 in
theorem bitsSet_walk (s : ByteArray) (at_ : Int) (on : Bool) (W : World) (w0 : s.size ≤ 140737488351232) (w1 : (Lit.int .i64 at_).wf = true) :
    Calls Try.prog 16 #[.string s, .int .i64 at_, .bool on] W fun e w' => e = .returned (.bool true) ∧ Below W.heap.size W w' := by
  have HB := Below.refl W.heap.size W
  clear w1
  by_cases hz : s.size = 0
  · have hz' : (s.size == 0) = true := by simpa using hz
    clear hz
    go_enter Try.func16, Try.ntmps16
    go_wp2_with (first | (go_at_call 44; refine (bitsAwake_calls _).mono ?_; rintro e w' ⟨rfl, hb⟩; replace HB := below_then (by repeat (first | exact HB | apply below_alloc | apply below_drewN | apply below_drew)) hb; clear hb) | (go_at_call 28; refine (num_calls _ _).mono ?_; rintro e w' ⟨rfl, rfl⟩))
    go_ret
    exact ⟨rfl, HB⟩
  obtain ⟨k, k0, k1, e1⟩ := modI at_ (8 * (s.size : Int)) (by omega) (by omega)
  obtain ⟨k, rfl⟩ := Int.eq_ofNat_of_zero_le k0
  have hz' : ((s.size : Int) == 0) = false := by rw [beq_eq_false_iff_ne]; omega
  have hl : s.data.toList.length = s.size := by rw [Array.length_toList]; rfl
  have h1 : setR s.data.toList s.size k on = (setBit s.data.toList k on, 0) := by unfold setR; rw [if_pos (by omega)]; simp
  have h2 := setBit_length s.data.toList k on
  rw [hl] at h2
  have HT := Lib.hid (fun j => setBit_bit s.data.toList k on j (by omega))
  have hsz : (⟨(setBit s.data.toList k on).toArray⟩ : ByteArray).size ≤ 140737488351232 := by simp [ByteArray.size]; omega
  clear hz hl
  generalize setBit s.data.toList k on = A at *
  go_enter Try.func16, Try.ntmps16
  go_wp2_with (first | (go_at_call 38; refine (bitsSet_calls _ _ _ _ (by first | assumption | (simp [ByteArray.size]; done)) (by first | assumption | omega)).mono ?_; rintro e w' ⟨rfl, hb⟩; replace HB := below_then (by repeat (first | exact HB | apply below_alloc | apply below_drewN | apply below_drew)) hb; clear hb) | (go_at_call 44; refine (bitsAwake_calls _).mono ?_; rintro e w' ⟨rfl, hb⟩; replace HB := below_then (by repeat (first | exact HB | apply below_alloc | apply below_drewN | apply below_drew)) hb; clear hb) | (go_at_call 28; refine (num_calls _ _).mono ?_; rintro e w' ⟨rfl, rfl⟩))
  have HB0 := Lib.hid HB
  clear HB
  go_loop [10] (fun c => ∃ n : Nat, n ≤ 8 * s.size ∧ c = .int .i64 n) (fun c => 8 * s.size - (intOf c).toNat)
  case atStart => exact ⟨0, by omega, rfl⟩
  case round =>
    obtain ⟨n, hn, rfl⟩ := hrel
    by_cases hlt : n < 8 * s.size
    · have g1 := get_ok s.data.toList s.size n n rfl hlt
      have g2 := get_ok A s.size n n rfl hlt
      rw [HT.out n] at g2
      by_cases hk : n = k
      · rw [if_pos hk] at g2
        subst hk
        generalize bit s.data.toList n = x at g1
        go_wp2_with (first | (go_at_call 36; refine (bitsGet_calls _ _ _ (by first | assumption | (simp [ByteArray.size]; done)) (by first | assumption | omega)).mono ?_; rintro e w' ⟨rfl, rfl⟩) | (go_at_call 28; refine (num_calls _ _).mono ?_; rintro e w' ⟨rfl, rfl⟩))
        go_round
        case rel => exact ⟨n + 1, by omega, by go_num⟩
        case measure => simp [intOf]; omega
      · rw [if_neg hk] at g2
        generalize bit s.data.toList n = x at g1 g2
        go_wp2_with (first | (go_at_call 36; refine (bitsGet_calls _ _ _ (by first | assumption | (simp [ByteArray.size]; done)) (by first | assumption | omega)).mono ?_; rintro e w' ⟨rfl, rfl⟩) | (go_at_call 28; refine (num_calls _ _).mono ?_; rintro e w' ⟨rfl, rfl⟩))
        go_round
        case rel => exact ⟨n + 1, by omega, by go_num⟩
        case measure => simp [intOf]; omega
    · go_wp2
      go_ret
      exact ⟨rfl, HB0.out⟩
end Go.Proofs.Ytbbakifachemcaa
