/- The walks of the laws of chapter 2. -/
import Derived.Test.YtbbakifachemcaaBitsR
namespace Go.Proofs.Ytbbakifachemcaa
open Go.RowKit Bt
set_option linter.unusedVariables false

set_option maxHeartbeats 3200000 in
set_option maxRecDepth 100000 in
theorem bitsAwake_calls (w : World) : Calls Try.prog 44 #[] w fun e w' => e = .returned (.bool true) ∧ Below w.heap.size w w' := by
  have h1 : getR [5] 1 2 = (true, 0) := by decide +kernel
  have h2 : setR [5] 1 1 true = ([7], 0) := by decide +kernel
  have h3 : countR [7, 1] 2 1 8 = (3, 0) := by decide +kernel
  have h4 : copyR [6, 1] 2 1 8 = ([131], 0) := by decide +kernel
  have h5 : getR [5] 1 8 = (false, 200) := by decide +kernel
  have h6 : copyR [5] 1 1 8 = ([], 200) := by decide +kernel
  have HB := Below.refl w.heap.size w
  go_enter Try.func44, Try.ntmps44
  go_wp2_with (first | (go_at_call 36; refine (bitsGet_calls _ _ _ (by first | assumption | (simp [ByteArray.size]; done)) (by first | assumption | omega)).mono ?_; rintro e w' ⟨rfl, rfl⟩) | (go_at_call 38; refine (bitsSet_calls _ _ _ _ (by first | assumption | (simp [ByteArray.size]; done)) (by first | assumption | omega)).mono ?_; rintro e w' ⟨rfl, hb⟩; replace HB := below_then (by repeat (first | exact HB | apply below_alloc | apply below_drewN | apply below_drew)) hb; clear hb) | (go_at_call 40; refine (bitsCount_calls _ _ _ _ (by first | assumption | (simp [ByteArray.size]; done)) (by first | assumption | omega)).mono ?_; rintro e w' ⟨rfl, hb⟩; replace HB := below_then (by repeat (first | exact HB | apply below_alloc | apply below_drewN | apply below_drew)) hb; clear hb) | (go_at_call 42; refine (bitsCopy_calls _ _ _ _ (by first | assumption | (simp [ByteArray.size]; done)) (by first | assumption | omega) (by first | assumption | (intro h; unfold okR at h; omega) | (intro _; decide))).mono ?_; rintro e w' ⟨rfl, hb⟩; replace HB := below_then (by repeat (first | exact HB | apply below_alloc | apply below_drewN | apply below_drew)) hb; clear hb) | (go_at_call 28; refine (num_calls _ _).mono ?_; rintro e w' ⟨rfl, rfl⟩))
  go_ret
  exact ⟨rfl, HB⟩

theorem i64_le {x : Int} (h : (Lit.int .i64 x).wf = true) : -9223372036854775808 ≤ x ∧ x ≤ 9223372036854775807 := by
  simpa [Lit.wf, IntKind.min, IntKind.max, IntKind.signed, IntKind.bits] using h

set_option maxHeartbeats 3200000 in
set_option maxRecDepth 100000 in
theorem bits_walk (s : ByteArray) (at_ count : Int) (on : Bool) (W : World) (w0 : s.size ≤ 17592186044415) (w1 : (Lit.int .i64 at_).wf = true) (w2 : (Lit.int .i64 count).wf = true) :
    Calls Try.prog 13 #[.string s, .int .i64 at_, .int .i64 count, .bool on] W fun e w' => e = .returned (.bool true) ∧ Below W.heap.size W w' := by
  have HB := Below.refl W.heap.size W
  have hs : s.size ≤ 140737488351232 := by omega
  have hx := (i64_le w1).2
  clear w1 w2
  go_enter Try.func13, Try.ntmps13
  go_wp2_with (first | (go_at_call 36; refine (bitsGet_calls _ _ _ (by first | assumption | (simp [ByteArray.size]; done)) (by first | assumption | omega)).mono ?_; rintro e w' ⟨rfl, rfl⟩) | (go_at_call 37; refine (refGetBit_calls _ _ _ (by first | assumption | (simp [ByteArray.size]; done)) (by first | assumption | omega)).mono ?_; rintro e w' ⟨rfl, rfl⟩) | (go_at_call 38; refine (bitsSet_calls _ _ _ _ (by first | assumption | (simp [ByteArray.size]; done)) (by first | assumption | omega)).mono ?_; rintro e w' ⟨rfl, hb⟩; replace HB := below_then (by repeat (first | exact HB | apply below_alloc | apply below_drewN | apply below_drew)) hb; clear hb) | (go_at_call 39; refine (refSetBit_calls _ _ _ _ (by first | assumption | (simp [ByteArray.size]; done)) (by first | assumption | omega)).mono ?_; rintro e w' ⟨rfl, hb⟩; replace HB := below_then (by repeat (first | exact HB | apply below_alloc | apply below_drewN | apply below_drew)) hb; clear hb) | (go_at_call 40; refine (bitsCount_calls _ _ _ _ (by first | assumption | (simp [ByteArray.size]; done)) (by first | assumption | omega)).mono ?_; rintro e w' ⟨rfl, hb⟩; replace HB := below_then (by repeat (first | exact HB | apply below_alloc | apply below_drewN | apply below_drew)) hb; clear hb) | (go_at_call 41; refine (refCount_calls _ _ _ _ (by first | assumption | (simp [ByteArray.size]; done)) (by first | assumption | omega)).mono ?_; rintro e w' ⟨rfl, rfl⟩) | (go_at_call 42; refine (bitsCopy_calls _ _ _ _ (by first | assumption | (simp [ByteArray.size]; done)) (by first | assumption | omega) (by first | assumption | (intro h; unfold okR at h; omega) | (intro _; decide))).mono ?_; rintro e w' ⟨rfl, hb⟩; replace HB := below_then (by repeat (first | exact HB | apply below_alloc | apply below_drewN | apply below_drew)) hb; clear hb) | (go_at_call 43; refine (refCopy_calls _ _ _ _ (by first | assumption | (simp [ByteArray.size]; done)) (by first | assumption | omega) (by first | assumption | (intro h; unfold okR at h; omega))).mono ?_; rintro e w' ⟨rfl, hb⟩; replace HB := below_then (by repeat (first | exact HB | apply below_alloc | apply below_drewN | apply below_drew)) hb; clear hb) | (go_at_call 44; refine (bitsAwake_calls _).mono ?_; rintro e w' ⟨rfl, hb⟩; replace HB := below_then (by repeat (first | exact HB | apply below_alloc | apply below_drewN | apply below_drew)) hb; clear hb) | (go_at_call 28; refine (num_calls _ _).mono ?_; rintro e w' ⟨rfl, rfl⟩))
  go_ret
  exact ⟨rfl, HB⟩

set_option maxHeartbeats 3200000 in
set_option maxRecDepth 100000 in
theorem bitsForms_walk (s : ByteArray) (x : Int) (W : World) (w0 : s.size ≤ 140737488351232) (w1 : (Lit.int .i64 x).wf = true) :
    Calls Try.prog 15 #[.string s, .int .i64 x] W fun e w' => e = .returned (.bool true) ∧ Below W.heap.size W w' := by
  have HB := Below.refl W.heap.size W
  clear w1
  obtain ⟨x0, x1⟩ := and_bd x 1023 (by decide)
  have e : ((1023 : Nat) : Int) = 1023 := rfl
  rw [e] at x0 x1
  clear e
  generalize hx : bits .and .i64 x 1023 = d at *
  have hn : ∀ o c : Int, (o < 0 ∨ c < 0 ∨ 8 * (s.size : Int) < o ∨ 8 * (s.size : Int) - o < c) → ¬ okR s.size o c := fun o c h hk => by unfold okR at hk; omega
  have h1 : getR s.data.toList s.size (-(1 + d)) = (false, 200) := by unfold getR; rw [if_neg (by omega)]
  have h2 : getR s.data.toList s.size (8 * (s.size : Int) - 1 + (1 + d)) = (false, 200) := by unfold getR; rw [if_neg (by omega)]
  have h3 : setR s.data.toList s.size (8 * (s.size : Int) - 1 + (1 + d)) true = ([], 200) := by unfold setR; rw [if_neg (by omega)]
  have h4 : setR s.data.toList s.size (-(1 + d)) true = ([], 200) := by unfold setR; rw [if_neg (by omega)]
  have h5 : countR s.data.toList s.size (-(1 + d)) 0 = (0, 200) := by unfold countR; rw [if_neg (hn _ _ (by omega))]
  have h6 : countR s.data.toList s.size 0 (-(1 + d)) = (0, 200) := by unfold countR; rw [if_neg (hn _ _ (by omega))]
  have h7 : copyR s.data.toList s.size 0 (8 * (s.size : Int) + (1 + d)) = ([], 200) := by unfold copyR; rw [if_neg (hn _ _ (by omega))]
  have h8 : copyR s.data.toList s.size (8 * (s.size : Int) + (1 + d)) 0 = ([], 200) := by unfold copyR; rw [if_neg (hn _ _ (by omega))]
  have h9 : copyR s.data.toList s.size (8 * (s.size : Int)) 0 = ([], 0) := by unfold copyR; rw [if_pos (by unfold okR; omega)]; simp [some_, packed, bytesOf]
  clear hn
  go_enter Try.func15, Try.ntmps15
  go_wp2_with (first | (go_at_call 36; refine (bitsGet_calls _ _ _ (by first | assumption | (simp [ByteArray.size]; done)) (by first | assumption | omega)).mono ?_; rintro e w' ⟨rfl, rfl⟩) | (go_at_call 38; refine (bitsSet_calls _ _ _ _ (by first | assumption | (simp [ByteArray.size]; done)) (by first | assumption | omega)).mono ?_; rintro e w' ⟨rfl, hb⟩; replace HB := below_then (by repeat (first | exact HB | apply below_alloc | apply below_drewN | apply below_drew)) hb; clear hb) | (go_at_call 40; refine (bitsCount_calls _ _ _ _ (by first | assumption | (simp [ByteArray.size]; done)) (by first | assumption | omega)).mono ?_; rintro e w' ⟨rfl, hb⟩; replace HB := below_then (by repeat (first | exact HB | apply below_alloc | apply below_drewN | apply below_drew)) hb; clear hb) | (go_at_call 42; refine (bitsCopy_calls _ _ _ _ (by first | assumption | (simp [ByteArray.size]; done)) (by first | assumption | omega) (by first | assumption | (intro h; unfold okR at h; omega) | (intro _; decide))).mono ?_; rintro e w' ⟨rfl, hb⟩; replace HB := below_then (by repeat (first | exact HB | apply below_alloc | apply below_drewN | apply below_drew)) hb; clear hb) | (go_at_call 44; refine (bitsAwake_calls _).mono ?_; rintro e w' ⟨rfl, hb⟩; replace HB := below_then (by repeat (first | exact HB | apply below_alloc | apply below_drewN | apply below_drew)) hb; clear hb) | (go_at_call 28; refine (num_calls _ _).mono ?_; rintro e w' ⟨rfl, rfl⟩))
  go_ret
  exact ⟨ret_bool (by simp), HB⟩

theorem modI (a M : Int) (h0 : 0 < M) (h : M ≤ 4611686018427387904) : ∃ i : Int, 0 ≤ i ∧ i < M ∧ wrap64 ((IntKind.u64.wrap a).tmod M) = i := by
  have hw : IntKind.u64.wrap a = a % 18446744073709551616 := by simp [IntKind.wrap, IntKind.bits, IntKind.signed]
  rw [hw, tmod_of_emod]
  have h1 := Int.emod_nonneg (a % 18446744073709551616) (b := M) (by omega)
  have h2 := Int.emod_lt_of_pos (a % 18446744073709551616) (b := M) (by omega)
  refine ⟨a % 18446744073709551616 % M, h1, h2, ?_⟩
  unfold wrap64
  omega
theorem count_ok (l : List UInt8) (n : Nat) (o c : Int) (a b : Nat) (ho : o = a) (hc : c = b) (h : a + b ≤ 8 * n) : countR l n o c = (((ones l a b : Nat) : Int), 0) := by
  subst ho
  subst hc
  unfold countR
  rw [if_pos (by unfold okR; omega)]
  simp
theorem ones_add (l : List UInt8) (o a b : Nat) : ones l o (a + b) = ones l o a + ones l (o + a) b := by
  induction b with
  | zero => simp [ones, some_]
  | succ b ih => rw [← Nat.add_assoc, ones_succ, ih, ones_succ, Nat.add_assoc, Nat.add_assoc]

set_option maxHeartbeats 3200000 in
set_option maxRecDepth 100000 in
theorem bitsParts_walk (s : ByteArray) (from_ cut : Int) (W : World) (w0 : s.size ≤ 140737488351232) (w1 : (Lit.int .i64 from_).wf = true) (w2 : (Lit.int .i64 cut).wf = true) :
    Calls Try.prog 17 #[.string s, .int .i64 from_, .int .i64 cut] W fun e w' => e = .returned (.bool true) ∧ Below W.heap.size W w' := by
  have HB := Below.refl W.heap.size W
  clear w1 w2
  obtain ⟨k, k0, k1, e1⟩ := modI from_ (8 * (s.size : Int) + 1) (by omega) (by omega)
  obtain ⟨k, rfl⟩ := Int.eq_ofNat_of_zero_le k0
  obtain ⟨m, m0, m1, e2⟩ := modI cut (8 * (s.size : Int) - k + 1) (by omega) (by omega)
  obtain ⟨m, rfl⟩ := Int.eq_ofNat_of_zero_le m0
  have h1 := count_ok s.data.toList s.size 0 k 0 k rfl rfl (by omega)
  have h2 := count_ok s.data.toList s.size k m k m rfl rfl (by omega)
  have h3 := count_ok s.data.toList s.size ((k : Int) + (m : Int)) (8 * (s.size : Int) - (k : Int) - (m : Int)) (k + m) (8 * s.size - k - m) (by omega) (by omega) (by omega)
  have h4 := count_ok s.data.toList s.size 0 (8 * (s.size : Int)) 0 (8 * s.size) rfl (by omega) (by omega)
  have s1 := ones_add s.data.toList 0 (k + m) (8 * s.size - k - m)
  have s2 := ones_add s.data.toList 0 k m
  rw [show k + m + (8 * s.size - k - m) = 8 * s.size by omega] at s1
  rw [Nat.zero_add] at s1 s2
  have b1 := ones_le s.data.toList 0 k
  have b2 := ones_le s.data.toList k m
  have b3 := ones_le s.data.toList (k + m) (8 * s.size - k - m)
  generalize ones s.data.toList 0 k = x at *
  generalize ones s.data.toList k m = y at *
  generalize ones s.data.toList (k + m) (8 * s.size - k - m) = z at *
  have HS := Lib.hid (show ones s.data.toList 0 (8 * s.size) = x + y + z by omega)
  generalize ones s.data.toList 0 (8 * s.size) = t at *
  clear s1 s2
  go_enter Try.func17, Try.ntmps17
  go_wp2_with (first | (go_at_call 40; refine (bitsCount_calls _ _ _ _ (by first | assumption | (simp [ByteArray.size]; done)) (by first | assumption | omega)).mono ?_; rintro e w' ⟨rfl, hb⟩; replace HB := below_then (by repeat (first | exact HB | apply below_alloc | apply below_drewN | apply below_drew)) hb; clear hb) | (go_at_call 44; refine (bitsAwake_calls _).mono ?_; rintro e w' ⟨rfl, hb⟩; replace HB := below_then (by repeat (first | exact HB | apply below_alloc | apply below_drewN | apply below_drew)) hb; clear hb) | (go_at_call 28; refine (num_calls _ _).mono ?_; rintro e w' ⟨rfl, rfl⟩))
  go_ret
  exact ⟨ret_bool (by simp; have := HS.out; omega), HB⟩
end Go.Proofs.Ytbbakifachemcaa
