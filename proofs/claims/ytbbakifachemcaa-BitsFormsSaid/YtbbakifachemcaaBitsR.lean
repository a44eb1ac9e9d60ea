/- Chapter 2: the reference's CountBits and CopyBits; Set and SetBit. -/
import Derived.Test.YtbbakifachemcaaBitsE
namespace Go.Proofs.Ytbbakifachemcaa
open Go.RowKit Bt
set_option linter.unusedVariables false

set_option maxHeartbeats 800000 in
theorem rangeMay_yes (s : ByteArray) (o c : Int) (w : World) (hs : s.size ≤ 140737488351232) (hok : okR s.size o c) :
    Calls Try.prog 54 #[.string s, .int .i64 o, .int .i64 c] w fun e w' => e = .returned (.bool true) ∧ w = w' := by
  obtain ⟨o0, c0, o1, c1⟩ := hok
  go_enter Try.func54, Try.ntmps54
  go_wp2
  go_ret
  exact ⟨rfl, rfl⟩
set_option maxHeartbeats 800000 in
theorem rangeMay_no (s : ByteArray) (o c : Int) (w : World) (hs : s.size ≤ 140737488351232) (h1 : o ≤ 9223372036854775807) (hok : ¬ okR s.size o c) :
    Calls Try.prog 54 #[.string s, .int .i64 o, .int .i64 c] w fun e w' => e = .returned (.bool false) ∧ w = w' := by
  have hs' : 8 * (s.size : Int) ≤ 1125899906842624 := by omega
  unfold okR at hok
  by_cases a0 : ¬ 0 ≤ o
  · clear hok
    go_enter Try.func54, Try.ntmps54
    go_wp2
    go_ret
    exact ⟨rfl, rfl⟩
  have a0' : 0 ≤ o := by omega
  by_cases b0 : ¬ 0 ≤ c
  · clear hok
    go_enter Try.func54, Try.ntmps54
    go_wp2
    go_ret
    exact ⟨rfl, rfl⟩
  have b0' : 0 ≤ c := by omega
  by_cases a1 : ¬ o ≤ 8 * (s.size : Int)
  · clear hok
    go_enter Try.func54, Try.ntmps54
    go_wp2
    go_ret
    exact ⟨rfl, rfl⟩
  have a1' : o ≤ 8 * (s.size : Int) := by omega
  have b1 : ¬ c ≤ 8 * (s.size : Int) - o := by omega
  clear hok a0 b0 a1
  go_enter Try.func54, Try.ntmps54
  go_wp2
  go_ret
  exact ⟨rfl, rfl⟩

set_option maxHeartbeats 1600000 in
theorem refCount_calls (s : ByteArray) (o c : Int) (w : World) (hs : s.size ≤ 140737488351232) (h1 : o ≤ 9223372036854775807) :
    Calls Try.prog 41 #[.string s, .int .i64 o, .int .i64 c] w fun e w' => e = .returned (.tuple #[.int .i64 (countR s.data.toList s.size o c).1, .int .i64 (countR s.data.toList s.size o c).2]) ∧ w = w' := by
  by_cases hok : okR s.size o c
  · have HU := Lib.hid (show countR s.data.toList s.size o c = (((ones s.data.toList o.toNat c.toNat : Nat) : Int), 0) by unfold countR; rw [if_pos hok])
    have hk := hok
    obtain ⟨o0, c0, o1, c1⟩ := hk
    obtain ⟨a, rfl⟩ := Int.eq_ofNat_of_zero_le o0
    obtain ⟨n, rfl⟩ := Int.eq_ofNat_of_zero_le c0
    rw [Int.toNat_natCast, Int.toNat_natCast] at HU
    have HY := Lib.hid (fun W => rangeMay_yes s a n W hs hok)
    clear hok
    go_enter Try.func41, Try.ntmps41
    go_wp2_with (go_at_call 54; refine (HY.out _).mono ?_; rintro e w' ⟨rfl, rfl⟩)
    go_loop [8, 9] (fun r j => ∃ k : Nat, k ≤ n ∧ j = .int .i64 ((a : Int) + (k : Int)) ∧ r = .int .i64 (ones s.data.toList a k : Nat)) (fun _ j => a + n - (intOf j).toNat)
    case atStart => exact ⟨0, Nat.zero_le _, by simp, rfl⟩
    case round =>
      obtain ⟨k, hk, rfl, rfl⟩ := hrel
      have hle := ones_le s.data.toList a k
      by_cases hlt : k < n
      · have HO := Lib.hid (ones_succ s.data.toList a k)
        generalize hb : bit s.data.toList (a + k) = b at HO
        have HB := Lib.hid hb
        clear hb
        generalize ones s.data.toList a k = m at *
        cases b
        · go_wp2_with (go_at_call 51; refine (refBit_calls _ _ _ (by omega) (by omega) hs).mono ?_; rw [show ((a : Int) + (k : Int)).toNat = a + k by omega, HB.out]; rintro e w' ⟨rfl, rfl⟩)
          go_round
          case rel => exact ⟨k + 1, by omega, by simp; omega, by rw [HO.out]; rfl⟩
          case measure => simp [intOf]; omega
        · go_wp2_with (go_at_call 51; refine (refBit_calls _ _ _ (by omega) (by omega) hs).mono ?_; rw [show ((a : Int) + (k : Int)).toNat = a + k by omega, HB.out]; rintro e w' ⟨rfl, rfl⟩)
          go_round
          case rel => exact ⟨k + 1, by omega, by simp; omega, by rw [HO.out]; rfl⟩
          case measure => simp [intOf]; omega
      · obtain rfl : k = n := by omega
        go_wp2
        go_ret2
        exact ⟨by rw [HU.out]; rfl, rfl⟩
  · have HU := Lib.hid (show countR s.data.toList s.size o c = (0, 200) by unfold countR; rw [if_neg hok])
    go_enter Try.func41, Try.ntmps41
    go_wp2_with (go_at_call 54; refine (rangeMay_no _ _ _ _ hs h1 hok).mono ?_; rintro e w' ⟨rfl, rfl⟩)
    go_ret2
    exact ⟨by rw [HU.out]; rfl, rfl⟩

set_option maxHeartbeats 1600000 in
theorem refCopy_calls (s : ByteArray) (o c : Int) (w : World) (hs : s.size ≤ 140737488351232) (h1 : o ≤ 9223372036854775807) (hc : okR s.size o c → c < 140737488355328) :
    Calls Try.prog 43 #[.string s, .int .i64 o, .int .i64 c] w fun e w' => e = .returned (.tuple #[.string ⟨(copyR s.data.toList s.size o c).1.toArray⟩, .int .i64 (copyR s.data.toList s.size o c).2]) ∧ Below w.heap.size w w' := by
  by_cases hok : okR s.size o c
  · have HU := Lib.hid (show copyR s.data.toList s.size o c = (packed (some_ s.data.toList o.toNat c.toNat), 0) by unfold copyR; rw [if_pos hok])
    have hc := hc hok
    have hk := hok
    obtain ⟨o0, c0, o1, c1⟩ := hk
    obtain ⟨a, rfl⟩ := Int.eq_ofNat_of_zero_le o0
    obtain ⟨n, rfl⟩ := Int.eq_ofNat_of_zero_le c0
    rw [Int.toNat_natCast, Int.toNat_natCast] at HU
    have HY := Lib.hid (fun W => rangeMay_yes s a n W hs hok)
    clear hok
    go_enter Try.func43, Try.ntmps43
    go_wp2_with (go_at_call 54; refine (HY.out _).mono ?_; rintro e w' ⟨rfl, rfl⟩)
    go_loopw [8, 9] (fun r j wr => ∃ k : Nat, k ≤ n ∧ j = .int .i64 ((a : Int) + (k : Int)) ∧ wr.ownsRow w.heap.size 4 1 r k (bools (some_ s.data.toList a k)) ∧ Below w.heap.size w wr) (fun _ j _ => a + n - (intOf j).toNat)
    case atStart => exact ⟨0, Nat.zero_le _, by simp, World.ownsRow_nil _ _ _ _, Below.refl _ _⟩
    case round =>
      obtain ⟨k, hk, rfl, hown, hb⟩ := hrel
      by_cases hlt : k < n
      · have HO := Lib.hid (show bools (some_ s.data.toList a (k + 1)) = bools (some_ s.data.toList a k) ++ [.bool (bit s.data.toList (a + k))] by rw [some_snoc, bools_snoc])
        generalize bools (some_ s.data.toList a k) = xs at *
        generalize hb' : bit s.data.toList (a + k) = b at HO
        have HB := Lib.hid hb'
        clear hb'
        go_wp2_with (first | (go_at_call 51; refine (refBit_calls _ _ _ (by omega) (by omega) hs).mono ?_; rw [show ((a : Int) + (k : Int)).toNat = a + k by omega, HB.out]; rintro e w' ⟨rfl, rfl⟩) | (at_builtin; refine wp_app1 rfl _ _ 64 4 rfl w.heap.size 1 (.bool false) Try.underlying64 info_bool rfl _ _ _ rfl rfl rfl hown (by omega) (by omega) hb.size ?_; intro v' w1 hown' hbel _))
        go_roundw
        case rel => exact ⟨k + 1, by omega, by simp; omega, by rw [HO.out]; exact hown', hb.trans hbel⟩
        case measure => simp [intOf]; omega
      · obtain rfl : k = n := by omega
        have hl := some_length s.data.toList a k
        go_wp2_with (go_at_call 57; refine (refBitsOf_calls _ _ _ _ (by rw [hl]; exact hown) (by omega)).mono ?_; rintro e w' ⟨rfl, hb2⟩)
        go_ret2
        exact ⟨by rw [HU.out]; rfl, below_then hb hb2⟩
  · have HU := Lib.hid (show copyR s.data.toList s.size o c = ([], 200) by unfold copyR; rw [if_neg hok])
    go_enter Try.func43, Try.ntmps43
    go_wp2_with (go_at_call 54; refine (rangeMay_no _ _ _ _ hs h1 hok).mono ?_; rintro e w' ⟨rfl, rfl⟩)
    go_ret2
    exact ⟨by rw [HU.out]; rfl, Below.refl _ _⟩

def setR (l : List UInt8) (n : Nat) (x : Int) (on : Bool) : List UInt8 × Int := if 0 ≤ x ∧ x < 8 * (n : Int) then (setBit l x.toNat on, 0) else ([], 200)
set_option maxHeartbeats 1600000 in
theorem bitsSet_calls (s : ByteArray) (x : Int) (on : Bool) (w : World) (hs : s.size ≤ 140737488351232) (hx : x ≤ 9223372036854775807) :
    Calls Try.prog 38 #[.string s, .int .i64 x, .bool on] w fun e w' => e = .returned (.tuple #[.string ⟨(setR s.data.toList s.size x on).1.toArray⟩, .int .i64 (setR s.data.toList s.size x on).2]) ∧ Below w.heap.size w w' := by
  by_cases h0 : 0 ≤ x
  · by_cases h1 : x < 8 * (s.size : Int)
    · have HU := Lib.hid (show setR s.data.toList s.size x on = (setBit s.data.toList x.toNat on, 0) by unfold setR; rw [if_pos ⟨h0, h1⟩])
      obtain ⟨n, rfl⟩ := Int.eq_ofNat_of_zero_le h0
      rw [Int.toNat_natCast] at HU
      have h2 : (n : Int) / 8 < (s.size : Int) := by omega
      have hcv := fun w => Lib.run_convert_string_bytes (P := Try.prog) w 9 25 5 s Try.underlying9 Try.underlying25 Try.underlying5
      have hrow := Row.bytes (w := w) 5 s
      have hb := bytes_below (Below.refl w.heap.size w) (Nat.le_refl _) 5 s
      go_enter Try.func38, Try.ntmps38
      go_wp2
      clear hcv
      generalize Lib.bytesWorld w 5 s = W1 at *
      have hl : s.data.toList.length = s.size := by rw [Array.length_toList]; rfl
      have hi : n / 8 < s.data.toList.length := by omega
      have hv := hrow.cell (i := n / 8) (v := bv (s.data.toList.getD (n / 8) 0)) (by rw [List.getElem?_map, List.getD_eq_getElem?_getD, List.getElem?_eq_getElem hi]; rfl)
      have hf := hrow.free (i := n / 8) (by rw [List.length_map]; exact hi)
      have HR := Lib.hid hrow
      have HL := Lib.hid hl
      clear hrow hi hl
      generalize hc : s.data.toList.getD (n / 8) 0 = c at hv
      have HC := Lib.hid hc
      clear hc
      have hc8 := c.toNat_lt
      unfold bv at hv
      have HB := Lib.hid (show ∀ on, setBit s.data.toList n on = s.data.toList.set (n / 8) (setByte c (n % 8) on) from fun on => by unfold setBit; rw [HC.out])
      cases on
      · go_quiet (fail)
        go_wp2
        rw [or_mask, mask_int, u8_xor_b]
        rw [run_string (P := Try.prog) 25 9 5 Try.underlying25 Try.underlying5 Try.underlying9 w.heap.size s.size _ (setBit s.data.toList n false) (by rw [setBit_length, HL.out]) (by have := ((HR.out.drewN nq).set (n / 8) (bv (c ||| mask (n % 8)))).set (n / 8) (bv (setByte c (n % 8) false)); rwa [List.set_set, ← List.map_set, ← HB.out] at this)]
        go_wp2
        go_ret2
        exact ⟨by rw [HU.out]; rfl, ((below_drewN hb nq).setCell (Nat.le_refl _) _).setCell (Nat.le_refl _) _⟩
      · go_quiet (fail)
        go_wp2
        rw [or_mask]
        rw [run_string (P := Try.prog) 25 9 5 Try.underlying25 Try.underlying5 Try.underlying9 w.heap.size s.size _ (setBit s.data.toList n true) (by rw [setBit_length, HL.out]) (by have := (HR.out.drewN nq).set (n / 8) (bv (setByte c (n % 8) true)); rwa [← List.map_set, ← HB.out] at this)]
        go_wp2
        go_ret2
        exact ⟨by rw [HU.out]; rfl, (below_drewN hb nq).setCell (Nat.le_refl _) _⟩
    · have HU := Lib.hid (show setR s.data.toList s.size x on = ([], 200) by unfold setR; rw [if_neg (by omega)])
      have h2 : ¬ x / 8 < (s.size : Int) := by omega
      go_enter Try.func38, Try.ntmps38
      go_wp2
      go_ret2
      exact ⟨by rw [HU.out]; rfl, Below.refl _ _⟩
  · have HU := Lib.hid (show setR s.data.toList s.size x on = ([], 200) by unfold setR; rw [if_neg (by omega)])
    go_enter Try.func38, Try.ntmps38
    go_wp2
    go_ret2
    exact ⟨by rw [HU.out]; rfl, Below.refl _ _⟩

theorem andNot_mask (c : UInt8) (k : Nat) : bits .andNot .u8 (c.toNat : Int) ((2 : Int) ^ (k % 8) % 256) = ((c &&& (255 - mask (k % 8))).toNat : Int) := by
  have hm := (mask (k % 8)).toNat_lt
  rw [mask_int, u8_andNot_nat _ _ c.toNat_lt hm, UInt8.toNat_and, UInt8.toNat_sub_of_le]
  · rfl
  · rw [UInt8.le_iff_toNat_le]
    have e : (255 : UInt8).toNat = 255 := rfl
    omega
set_option maxHeartbeats 1600000 in
theorem refSetBit_calls (s : ByteArray) (x : Int) (on : Bool) (w : World) (hs : s.size ≤ 140737488351232) (hx : x ≤ 9223372036854775807) :
    Calls Try.prog 39 #[.string s, .int .i64 x, .bool on] w fun e w' => e = .returned (.tuple #[.string ⟨(setR s.data.toList s.size x on).1.toArray⟩, .int .i64 (setR s.data.toList s.size x on).2]) ∧ Below w.heap.size w w' := by
  by_cases h0 : 0 ≤ x
  · by_cases h1 : x < 8 * (s.size : Int)
    · have HU := Lib.hid (show setR s.data.toList s.size x on = (setBit s.data.toList x.toNat on, 0) by unfold setR; rw [if_pos ⟨h0, h1⟩])
      obtain ⟨n, rfl⟩ := Int.eq_ofNat_of_zero_le h0
      rw [Int.toNat_natCast] at HU
      have h2 : (n : Int) / 8 < (s.size : Int) := by omega
      have hcv := fun w => Lib.run_convert_string_bytes (P := Try.prog) w 9 25 5 s Try.underlying9 Try.underlying25 Try.underlying5
      have hrow := Row.bytes (w := w) 5 s
      have hb := bytes_below (Below.refl w.heap.size w) (Nat.le_refl _) 5 s
      have hl : s.data.toList.length = s.size := by rw [Array.length_toList]; rfl
      have hi : n / 8 < s.data.toList.length := by omega
      have hv := hrow.cell (i := n / 8) (v := bv (s.data.toList.getD (n / 8) 0)) (by rw [List.getElem?_map, List.getD_eq_getElem?_getD, List.getElem?_eq_getElem hi]; rfl)
      have hf := hrow.free (i := n / 8) (by rw [List.length_map]; exact hi)
      have HR := Lib.hid hrow
      have HL := Lib.hid hl
      clear hrow hi hl
      generalize hc : s.data.toList.getD (n / 8) 0 = c at hv
      have HC := Lib.hid hc
      clear hc
      have hc8 := c.toNat_lt
      unfold bv at hv
      have HB := Lib.hid (show ∀ on, setBit s.data.toList n on = s.data.toList.set (n / 8) (setByte c (n % 8) on) from fun on => by unfold setBit; rw [HC.out])
      have HS := fun on => setByte_ref c (n % 8) on (Nat.mod_lt _ (by decide))
      have HSF := Lib.hid (HS false)
      have HST := Lib.hid (HS true)
      clear HS
      cases on
      · go_enter Try.func39, Try.ntmps39
        go_wp2
        rw [andNot_mask]
        rw [run_string (P := Try.prog) 25 9 5 Try.underlying25 Try.underlying5 Try.underlying9 w.heap.size s.size _ (setBit s.data.toList n false) (by rw [setBit_length, HL.out]) (by have := HR.out.set (n / 8) (bv (setByte c (n % 8) false)); rw [← List.map_set, ← HB.out, ← HSF.out] at this; exact this)]
        go_wp2
        go_ret2
        exact ⟨by rw [HU.out]; rfl, hb.setCell (Nat.le_refl _) _⟩
      · go_enter Try.func39, Try.ntmps39
        go_wp2
        rw [andNot_mask, or_mask]
        rw [run_string (P := Try.prog) 25 9 5 Try.underlying25 Try.underlying5 Try.underlying9 w.heap.size s.size _ (setBit s.data.toList n true) (by rw [setBit_length, HL.out]) (by have := (HR.out.set (n / 8) (bv (c &&& (255 - mask (n % 8))))).set (n / 8) (bv (setByte c (n % 8) true)); rw [List.set_set, ← List.map_set, ← HB.out, ← HST.out] at this; exact this)]
        go_wp2
        go_ret2
        exact ⟨by rw [HU.out]; rfl, (hb.setCell (Nat.le_refl _) _).setCell (Nat.le_refl _) _⟩
    · have HU := Lib.hid (show setR s.data.toList s.size x on = ([], 200) by unfold setR; rw [if_neg (by omega)])
      go_enter Try.func39, Try.ntmps39
      go_wp2
      go_ret2
      exact ⟨by rw [HU.out]; rfl, Below.refl _ _⟩
  · have HU := Lib.hid (show setR s.data.toList s.size x on = ([], 200) by unfold setR; rw [if_neg (by omega)])
    go_enter Try.func39, Try.ntmps39
    go_wp2
    go_ret2
    exact ⟨by rw [HU.out]; rfl, Below.refl _ _⟩
end Go.Proofs.Ytbbakifachemcaa
