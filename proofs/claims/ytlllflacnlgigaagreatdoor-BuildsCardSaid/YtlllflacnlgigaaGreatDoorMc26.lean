/- The reference's rows of bytes, bits, numbers, walked. -/
import Derived.Test.YtlllflacnlgigaaGreatDoorMc15
import Derived.Test.YtlllflacnlgigaaGreatDoorMc13
import Derived.Test.YtlllflacnlgigaaGreatDoorMc2
import Derived.Laws.BitsAllLaws
namespace Go.Proofs.YtlllflacnlgigaaGreatDoor
open Go.RowKit Bt
set_option linter.unusedVariables false
set_option linter.unusedSimpArgs false

theorem getb_at (s : ByteArray) (i : Nat) (h : i < s.size) : s[i] = s.data.toList.getD i 0 := by
  have hl : i < s.data.size := h
  simp only [List.getD, Array.getElem?_toList, Array.getElem?_eq_getElem hl, Option.getD_some]; rfl
theorem refBytes_calls (n : Int) (w : World) (h0 : 0 ≤ n) (h1 : n ≤ 1125899906842624) : Calls Tryz.prog 88 #[.int .i64 n] w fun e w' => e = .returned (.int .i64 ((n + 7) / 8)) ∧ w = w' := by
  go_enter Tryz.func88, Tryz.ntmps88
  go_wp2
  go_ret
  exact ⟨rfl, rfl⟩
set_option maxHeartbeats 800000 in
theorem refBit_calls (s : ByteArray) (x : Int) (w : World) (h0 : 0 ≤ x) (h1 : x < 8 * (s.size : Int)) (hs : s.size ≤ 140737488351232) :
    Calls Tryz.prog 93 #[.string s, .int .i64 x] w fun e w' => e = .returned (.bool (bit s.data.toList x.toNat)) ∧ w = w' := by
  obtain ⟨n, rfl⟩ := Int.eq_ofNat_of_zero_le h0
  rw [Int.toNat_natCast]
  have hn : n / 8 < s.size := by omega
  have hn' : (n : Int) / 8 < (s.size : Int) := by omega
  have HG := Lib.hid (show bit s.data.toList n = s[n / 8].toNat.testBit (n % 8) by unfold bit; rw [getb_at s (n / 8) hn])
  go_enter Tryz.func93, Tryz.ntmps93
  go_wp2
  go_ret
  exact ⟨ret_bool (by rw [HG.out]; exact byte_bit _ _), rfl⟩
set_option maxHeartbeats 1600000 in
theorem refBitsOf_calls (base : Nat) (v : Value) (xs : List Bool) (w : World) (hown : w.ownsRow base 4 1 v xs.length (bools xs)) (hn : xs.length ≤ 1125899906842624) :
    Calls Tryz.prog 87 #[v] w fun e w' => e = .returned (.string ⟨(packed xs).toArray⟩) ∧ Below w.heap.size w w' := by
  have hmk := fun W => run_makeBytes (P := Tryz.prog) 92 5 Tryz.underlying92 info_u8b ((xs.length + 7) / 8) (by omega) W
  have em : (((xs.length + 7) / 8 : Nat) : Int) = ((xs.length : Int) + 7) / 8 := by omega
  rw [em] at hmk
  clear em
  have HK := Lib.hid (packed_none xs ((xs.length + 7) / 8))
  have HA := Lib.hid (packed_all xs)
  have hlen := bytesOf_length (upto xs xs.length) ((xs.length + 7) / 8)
  rcases Nat.eq_zero_or_pos xs.length with hz | hpos
  · have hx : xs = [] := List.eq_nil_of_length_eq_zero hz
    subst hx
    have hv : ∃ A c, v = .slice A 0 c := by
      rcases hown.2 with ⟨rfl, _⟩ | ⟨g, cap, cur, rfl, _⟩
      · exact ⟨none, 0, rfl⟩
      · exact ⟨_, cap, rfl⟩
    obtain ⟨A, c, rfl⟩ := hv
    have hmk : ∀ W, (Instr.makeSlice 92 (.int .i64 0) (.int .i64 0)).run Tryz.prog W = .ok (.slice (some ⟨W.heap.size, 0, none⟩) 0 0) (W.alloc (.cells #[] 5)) := fun W => run_makeBytes (P := Tryz.prog) 92 5 Tryz.underlying92 info_u8b 0 (by omega) W
    have hs := fun W n => run_string (P := Tryz.prog) (w := W) 92 9 5 Tryz.underlying92 Tryz.underlying5 Tryz.underlying9 n 0 0 [] rfl
    clear hn hlen HK HA hown
    go_enter Tryz.func87, Tryz.ntmps87
    go_wp2_with (go_at_call 88; refine (refBytes_calls _ _ (by omega) (by omega)).mono ?_; rintro e w' ⟨rfl, rfl⟩)
    refine wp_loop_rounds 1 ?_
    rw [rounds_succ]
    have hs := hs (w.alloc (.cells #[] 5)) w.heap.size (Row.new w 5 #[])
    go_wp2
    go_ret
    exact ⟨rfl, (Below.refl _ _).alloc (Nat.le_refl _) _⟩
  · obtain ⟨g, cap, rfl, _, _, hxl, hrow⟩ := own_row hown hpos
    have hg := hrow.lt
    clear hown hxl
    go_enter Tryz.func87, Tryz.ntmps87
    go_wp2_with (go_at_call 88; refine (refBytes_calls _ _ (by omega) (by omega)).mono ?_; rintro e w' ⟨rfl, rfl⟩)
    clear hmk
    go_loopw [4] (fun i wr => ∃ k : Nat, k ≤ xs.length ∧ i = .int .i64 k ∧ Row wr w.heap.size 5 ((bytesOf (upto xs k) ((xs.length + 7) / 8)).map bv) ∧ Below w.heap.size w wr) (fun i _ => xs.length - (intOf i).toNat)
    case atStart => exact ⟨0, Nat.zero_le _, rfl, by have := Row.new w 5 (List.map bv (List.replicate ((xs.length + 7) / 8) 0)).toArray; rw [HK.out]; simpa [List.map_const'] using this, (Below.refl _ _).alloc (Nat.le_refl _) _⟩
    case round =>
      obtain ⟨k, hk, rfl, hout, hb⟩ := hrel
      have hol := bytesOf_length (upto xs k) ((xs.length + 7) / 8)
      by_cases hlt : k < xs.length
      · have hc := (hrow.below hb hg).cell (i := k) (v := .bool (xs.getD k false)) (by rw [bools, List.getElem?_map, List.getD_eq_getElem?_getD, List.getElem?_eq_getElem hlt]; rfl)
        have hm : k / 8 < (xs.length + 7) / 8 := by omega
        have hm' : (k : Int) / 8 < ((xs.length : Int) + 7) / 8 := by omega
        have hv := hout.cell (i := k / 8) (v := bv (packB (upto xs k) (k / 8))) (by rw [List.getElem?_map, bytesOf, List.getElem?_map, List.getElem?_range hm]; rfl)
        have hf := hout.free (i := k / 8) (by rw [List.length_map, hol]; exact hm)
        have HR := Lib.hid hout
        have HP := Lib.hid (packed_set xs k ((xs.length + 7) / 8))
        have HQ := Lib.hid (packed_skip xs k ((xs.length + 7) / 8))
        generalize hx : xs.getD k false = x at hc
        rw [hx] at HP HQ
        clear hout hx hol
        cases x
        · go_wp2
          go_roundw
          case rel => exact ⟨k + 1, by omega, by go_num, by rw [← HQ.out rfl]; exact HR.out, hb⟩
          case measure => simp [intOf]; omega
        · generalize packB (upto xs k) (k / 8) = c at hv HP
          have hc8 := c.toNat_lt
          unfold bv at hv
          go_wp2
          go_region
          go_wp2
          go_roundw
          case rel =>
            refine ⟨k + 1, by omega, by go_num, ?_, (hb.setCell (Nat.le_refl _) _).drew⟩
            have := (HR.out.set (k / 8) (bv (c ||| mask (k % 8)))).drew
            rw [← List.map_set, HP.out trivial hm] at this
            rwa [or_mask]
          case measure => simp [intOf]; omega
      · obtain rfl : k = xs.length := by omega
        have hs := run_string (P := Tryz.prog) (w := wr) 92 9 5 Tryz.underlying92 Tryz.underlying5 Tryz.underlying9 w.heap.size ((xs.length + 7) / 8) ((xs.length + 7) / 8) _ hol.symm hout
        rw [HA.out] at hs
        clear hout hol
        go_wp2
        go_ret
        exact ⟨rfl, hb⟩
set_option maxHeartbeats 1600000 in
theorem refLow_calls (x : Int) (n : Nat) (W : World) (hp : 0 < n) (hn : n ≤ 8) (h0 : -9223372036854775808 ≤ x) (h1 : x ≤ 9223372036854775807) :
    Calls Tryz.prog 85 #[.int .i64 x, .int .i64 (n : Int)] W fun e w' => e = .returned (tv (word x n)) ∧ Below W.heap.size W w' := by
  have hmk := fun w => run_makeBytes (P := Tryz.prog) 92 5 Tryz.underlying92 info_u8_ n (by omega) w
  have HK := Lib.hid (fill_none n (wordB x) (fun _ => (0 : UInt8)))
  have HA := Lib.hid (fill_all n n (wordB x) (fun _ => (0 : UInt8)) (Nat.le_refl _))
  go_enter Tryz.func85, Tryz.ntmps85
  go_wp2
  clear hmk
  go_loopw [6] (fun i wr => ∃ k : Nat, k ≤ n ∧ i = .int .i64 k ∧ Row wr W.heap.size 5 ((fill n k (wordB x) (fun _ => 0)).map bv) ∧ Below W.heap.size W wr) (fun i _ => n - (intOf i).toNat)
  case atStart => exact ⟨0, Nat.zero_le _, rfl, by have := Row.new W 5 (List.map bv (List.replicate n 0)).toArray; rw [HK.out]; simpa [List.map_const'] using this, (Below.refl _ _).alloc (Nat.le_refl _) _⟩
  case round =>
    obtain ⟨k, hk, rfl, hout, hb⟩ := hrel
    have hfl := fill_length n k (wordB x) (fun _ => (0 : UInt8))
    by_cases hlt : k < n
    · have hlti : (k : Int) < (n : Int) := by omega
      have hf := hout.free (i := k) (by rw [List.length_map, hfl]; exact hlt)
      obtain ⟨v0, hc⟩ := hout.has (i := k) (by rw [List.length_map, hfl]; exact hlt)
      have HR := Lib.hid hout
      clear hout hfl
      go_wp2
      refine ⟨⟨k + 1, by omega, by go_num, ?_, hb.setCell (Nat.le_refl _) _⟩, by simp [intOf]; omega⟩
      have := HR.out.set k (bv (wordB x k))
      rw [← List.map_set, fill_set _ _ _ _ _ rfl, bv_word] at this
      exact this
    · obtain rfl : k = n := by omega
      have hs := run_string (P := Tryz.prog) (w := wr) 92 9 5 Tryz.underlying92 Tryz.underlying5 Tryz.underlying9 W.heap.size k k _ hfl.symm hout
      go_wp2
      go_ret
      exact ⟨by rw [HA.out]; rfl, hb⟩

/-! Numbers. -/
theorem le_lt (l : List UInt8) : Vp.le l < 256 ^ l.length := by
  induction l with
  | nil => simp [Vp.le]
  | cons c l ih =>
    rw [Vp.le_cons, List.length_cons, Nat.pow_succ]
    have := c.toNat_lt
    omega
theorem drop_step (l : List UInt8) (k : Nat) (h : k < l.length) : Vp.le (l.drop k) = l[k].toNat + 256 * Vp.le (l.drop (k + 1)) := by
  rw [List.drop_eq_getElem_cons h, Vp.le_cons]
theorem or_low (a c : Nat) (hc : c < 256) : a * 256 ||| c = a * 256 + c := by
  have := Nat.shiftLeft_add_eq_or_of_lt (b := c) (i := 8) (by omega) a
  rw [Nat.shiftLeft_eq] at this
  simpa using this.symm
theorem pow256 (n : Nat) (h : n ≤ 7) : 256 ^ n ≤ 72057594037927936 := by
  have := Nat.pow_le_pow_right (n := 256) (by decide) h
  simpa using this
set_option maxHeartbeats 800000 in
theorem refNum_calls (l : Vp.Txt) (W : World) (hl : l.length ≤ 8) :
    Calls Tryz.prog 92 #[.string ⟨l.toArray⟩] W fun e w' => e = .returned (.int .i64 (IntKind.i64.wrap (Vp.le l : Nat))) ∧ W = w' := by
  have hz := mk_size l
  go_enter Tryz.func92, Tryz.ntmps92
  go_wp2
  go_loop [3, 4] (fun x i => ∃ k : Nat, k ≤ l.length ∧ i = .int .i64 ((k : Int) - 1) ∧ x = .int .u64 (Vp.le (l.drop k) : Nat)) (fun _ i => (intOf i + 1).toNat)
  case atStart => exact ⟨l.length, Nat.le_refl _, by first | rfl | go_num, by rw [List.drop_length]; rfl⟩
  case round =>
    obtain ⟨k, hk, rfl, rfl⟩ := hrel
    rcases Nat.eq_zero_or_pos k with h0 | h0
    · subst h0
      go_wp2
      go_ret
      exact ⟨congrArg (fun x => Ending.returned (Value.int .i64 x)) (by rw [IntKind.wrap_i64, wrap64]), rfl⟩
    · obtain ⟨k, rfl⟩ : ∃ q, k = q + 1 := ⟨k - 1, by omega⟩
      have hlt : k < l.length := hk
      have hu : l[k] = (⟨l.toArray⟩ : ByteArray)[k]'(by omega) := rfl
      have hst := drop_step l k hlt
      have hle := le_lt (l.drop (k + 1))
      have hp := pow256 (l.length - (k + 1)) (by omega)
      rw [List.length_drop] at hle
      generalize Vp.le (l.drop (k + 1)) = a at hst hle
      rw [hu] at hst
      have hc8 := ((⟨l.toArray⟩ : ByteArray)[k]'(by omega)).toNat_lt
      go_wp2
      refine ⟨⟨k, by omega, rfl, ?_⟩, by simp [intOf]⟩
      have e := u64_or_nat (a * 256) ((⟨l.toArray⟩ : ByteArray)[k]'(by omega)).toNat (by omega) (by omega)
      rw [or_low a _ hc8] at e
      rw [show ((a * 256 : Nat) : Int) = (a : Int) * 256 by omega] at e
      rw [e, hst]
      congr 1
      omega
theorem refIn_calls (x : Int) (W : World) : Calls Tryz.prog 110 #[.int .i64 x] W fun e w' => e = .returned (.bool (decide (0 ≤ x ∧ x ≤ 2147483647))) ∧ W = w' := by
  by_cases h0 : 0 ≤ x
  · by_cases h1 : x ≤ 2147483647
    · go_enter Tryz.func110, Tryz.ntmps110
      go_wp2_with (go_in)
      go_ret
      exact ⟨ret_bool (decide_eq_true ⟨h0, h1⟩).symm, rfl⟩
    · have hd : decide (x ≤ 2147483647) = false := decide_eq_false h1
      go_enter Tryz.func110, Tryz.ntmps110
      go_wp2_with (go_in)
      go_ret
      exact ⟨ret_bool (by first | (simp; done) | (simp; omega)), rfl⟩
  · have hd : decide (0 ≤ x) = false := decide_eq_false h0
    go_enter Tryz.func110, Tryz.ntmps110
    go_wp2_with (go_in)
    go_ret
    exact ⟨ret_bool (by first | (simp; done) | (simp; omega)), rfl⟩
/-- A number of four bytes at a place. -/
def num4R (l : Vp.Txt) (i : Nat) : Int × Int := ((Vp.num4 l i).1, if (Vp.num4 l i).2 then 0 else 300)
set_option maxHeartbeats 1600000 in
theorem getNum4_calls (l : Vp.Txt) (i : Nat) (W : World) (hl : l.length ≤ 140737488351232) (hi : i ≤ 140737488351232) :
    Calls Tryz.prog 90 #[.string ⟨l.toArray⟩, .int .i64 (4 * (i : Int)), .int .i64 4] W fun e w' => e = .returned (.tuple #[.int .i64 (num4R l i).1, .int .i64 (num4R l i).2]) ∧ W = w' := by
  have hz := mk_size l
  by_cases h4 : 4 * i + 4 ≤ l.length
  · have hcl : ((l.drop (4 * i)).take 4).length = 4 := by rw [List.length_take, List.length_drop]; omega
    go_enter Tryz.func90, Tryz.ntmps90
    have hd : decide (4 * (i : Int) < 0) = false := by simp; omega
    have hex := mk_extract l (4 * i) (4 * i + 4)
    rw [← List.take_drop] at hex
    have HEX := Lib.hid hex
    have hc8 := le_lt ((l.drop (4 * i)).take 4)
    rw [hcl] at hc8
    have hcut : Vp.cut4 l i = Vp.le ((l.drop (4 * i)).take 4) := rfl
    have HN := Lib.hid (fun W => refNum_calls ((l.drop (4 * i)).take 4) W (by omega))
    rw [← hcut] at HN hc8
    rw [show IntKind.i64.wrap (Vp.cut4 l i : Nat) = (Vp.cut4 l i : Nat) by rw [IntKind.wrap_i64]; omega] at HN
    clear hex hcut hcl
    obtain ⟨x, hx⟩ : ∃ x, Vp.cut4 l i = x := ⟨_, rfl⟩
    by_cases hm : x ≤ 2147483647
    · have HU := Lib.hid (show num4R l i = ((x : Int), 0) by unfold num4R Vp.num4; rw [hx, if_pos ⟨h4, hm⟩]; rfl)
      have HI := Lib.hid (fun W => refIn_calls (x : Int) W)
      rw [decide_eq_true (show 0 ≤ (x : Int) ∧ (x : Int) ≤ 2147483647 by omega)] at HI
      rw [hx] at HN
      clear hx hc8
      go_wp2_with (fail)
      rw [HEX.out]
      refine (HN.out _).mono ?_; rintro e w' ⟨rfl, rfl⟩
      go_wp2_with (fail)
      refine (HI.out _).mono ?_; rintro e w' ⟨rfl, rfl⟩
      go_wp2
      go_ret2
      exact ⟨by rw [HU.out]; rfl, rfl⟩
    · have HU := Lib.hid (show num4R l i = (0, 300) by unfold num4R Vp.num4; rw [hx, if_neg (by omega)]; rfl)
      have HI := Lib.hid (fun W => refIn_calls (x : Int) W)
      rw [decide_eq_false (show ¬ (0 ≤ (x : Int) ∧ (x : Int) ≤ 2147483647) by omega)] at HI
      rw [hx] at HN
      clear hx hc8
      go_wp2_with (fail)
      rw [HEX.out]
      refine (HN.out _).mono ?_; rintro e w' ⟨rfl, rfl⟩
      go_wp2_with (fail)
      refine (HI.out _).mono ?_; rintro e w' ⟨rfl, rfl⟩
      go_wp2
      go_ret2
      exact ⟨by rw [HU.out]; rfl, rfl⟩
  · have hd : (l.length : Int) - 4 < 4 * (i : Int) := by omega
    have HU := Lib.hid (show num4R l i = (0, 300) by unfold num4R Vp.num4; rw [if_neg (by omega)]; rfl)
    go_enter Tryz.func90, Tryz.ntmps90
    go_wp2_with (fail)
    go_ret2
    exact ⟨by rw [HU.out]; rfl, rfl⟩
end Go.Proofs.YtlllflacnlgigaaGreatDoor
