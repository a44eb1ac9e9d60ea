/- bits.Of, walked. -/
import Derived.Test.YtlllflacnlgigaaGreatDoorMc10
import Derived.Test.YtlllflacnlgigaaGreatDoorMc1
import Derived.BigRegion
namespace Go.Proofs.YtlllflacnlgigaaGreatDoor
open Go.RowKit
set_option linter.unusedVariables false
set_option linter.unusedSimpArgs false
open Bt
theorem mask_int (k : Nat) : ((2 : Int) ^ (k % 8) % 256) = ((mask (k % 8)).toNat : Int) := by
  have hk : k % 8 < 8 := Nat.mod_lt _ (by decide)
  rw [mask_toNat _ hk]
  have : (2 : Nat) ^ (k % 8) < 2 ^ 8 := Nat.pow_lt_pow_right (by decide) hk
  have e : ((2 ^ (k % 8) : Nat) : Int) = (2 : Int) ^ (k % 8) := by simp
  rw [← e]
  generalize (2 : Nat) ^ (k % 8) = y at this ⊢
  omega
theorem or_mask (c : UInt8) (k : Nat) : bits .or .u8 (c.toNat : Int) ((2 : Int) ^ (k % 8) % 256) = ((c ||| mask (k % 8)).toNat : Int) := by
  rw [mask_int, u8_or_nat _ _ c.toNat_lt (mask (k % 8)).toNat_lt, UInt8.toNat_or]
def bools (xs : List Bool) : List Value := xs.map Value.bool
theorem bools_length (xs : List Bool) : (bools xs).length = xs.length := by simp [bools]
theorem bitsBytes_calls (n : Int) (w : World) (h0 : 0 ≤ n) (h1 : n ≤ 1125899906842624) : Calls Tryz.prog 122 #[.int .i64 n] w fun e w' => e = .returned (.int .i64 ((n + 7) / 8)) ∧ w = w' := by
  go_enter Tryz.func122, Tryz.ntmps122
  go_wp2
  go_ret
  exact ⟨rfl, rfl⟩
theorem info_u8b : (Tryz.prog.info? 5).map (fun i => (i.zero, i.size, i.bytes)) = some (some (.int .u8 0), 1, 1) := by kernel_rfl
theorem info_boolb : (Tryz.prog.info? 4).map (fun i => (i.zero, i.size, i.bytes)) = some (some (.bool false), 1, 1) := by kernel_rfl

set_option maxHeartbeats 1600000 in
theorem bitsOf_calls (base : Nat) (v : Value) (xs : List Bool) (w : World) (hown : w.ownsRow base 4 1 v xs.length (bools xs)) (hn : xs.length ≤ 1125899906842624) :
    Calls Tryz.prog 104 #[v] w fun e w' => e = .returned (.string ⟨(packed xs).toArray⟩) ∧ Below w.heap.size w w' := by
  have hmk := fun W => run_makeBytes (P := Tryz.prog) 92 5 Tryz.underlying92 info_u8b ((xs.length + 7) / 8) (by omega) W
  have em : (((xs.length + 7) / 8 : Nat) : Int) = ((xs.length : Int) + 7) / 8 := by omega
  rw [em] at hmk
  clear em
  have HK := Lib.hid (packed_none xs ((xs.length + 7) / 8))
  have HA := Lib.hid (packed_all xs)
  have hlen := bytesOf_length (upto xs xs.length) ((xs.length + 7) / 8)
  rcases Nat.eq_zero_or_pos xs.length with hz | hpos
  · have hx : xs = [] := List.eq_nil_of_length_eq_zero hz
    subst hx
    have hv : ∃ A c, v = .slice A 0 c := by
      rcases hown.2 with ⟨rfl, _⟩ | ⟨g, cap, cur, rfl, _⟩
      · exact ⟨none, 0, rfl⟩
      · exact ⟨_, cap, rfl⟩
    obtain ⟨A, c, rfl⟩ := hv
    have hmk : ∀ W, (Instr.makeSlice 92 (.int .i64 0) (.int .i64 0)).run Tryz.prog W = .ok (.slice (some ⟨W.heap.size, 0, none⟩) 0 0) (W.alloc (.cells #[] 5)) := fun W => run_makeBytes (P := Tryz.prog) 92 5 Tryz.underlying92 info_u8b 0 (by omega) W
    have hs := fun W n => run_string (P := Tryz.prog) (w := W) 92 9 5 Tryz.underlying92 Tryz.underlying5 Tryz.underlying9 n 0 0 [] rfl
    clear hn hlen HK HA hown
    go_enter Tryz.func104, Tryz.ntmps104
    go_wp2_with (go_at_call 122; refine (bitsBytes_calls _ _ (by omega) (by omega)).mono ?_; rintro e w' ⟨rfl, rfl⟩)
    refine wp_loop_rounds 1 ?_
    rw [rounds_succ]
    have hs := hs (w.alloc (.cells #[] 5)) w.heap.size (Row.new w 5 #[])
    go_wp2
    go_ret
    exact ⟨rfl, (Below.refl _ _).alloc (Nat.le_refl _) _⟩
  · obtain ⟨g, cap, rfl, _, _, hxl, hrow⟩ := own_row hown hpos
    have hg := hrow.lt
    clear hown hxl
    go_enter Tryz.func104, Tryz.ntmps104
    go_wp2_with (go_at_call 122; refine (bitsBytes_calls _ _ (by omega) (by omega)).mono ?_; rintro e w' ⟨rfl, rfl⟩)
    clear hmk
    go_loopw [4, 5, 12] (fun _ _ i wr => ∃ k : Nat, k ≤ xs.length ∧ i = .int .i64 k ∧ Row wr w.heap.size 5 ((bytesOf (upto xs k) ((xs.length + 7) / 8)).map bv) ∧ Below w.heap.size w wr) (fun _ _ i _ => xs.length - (intOf i).toNat)
    case atStart => exact ⟨0, Nat.zero_le _, rfl, by have := Row.new w 5 (List.map bv (List.replicate ((xs.length + 7) / 8) 0)).toArray; rw [HK.out]; simpa [List.map_const'] using this, (Below.refl _ _).alloc (Nat.le_refl _) _⟩
    case round =>
      obtain ⟨k, hk, rfl, hout, hb⟩ := hrel
      have hol := bytesOf_length (upto xs k) ((xs.length + 7) / 8)
      by_cases hlt : k < xs.length
      · have hc := (hrow.below hb hg).cell (i := k) (v := .bool (xs.getD k false)) (by rw [bools, List.getElem?_map, List.getD_eq_getElem?_getD, List.getElem?_eq_getElem hlt]; rfl)
        have hm : k / 8 < (xs.length + 7) / 8 := by omega
        have hm' : (k : Int) / 8 < ((xs.length : Int) + 7) / 8 := by omega
        have hv := hout.cell (i := k / 8) (v := bv (packB (upto xs k) (k / 8))) (by rw [List.getElem?_map, bytesOf, List.getElem?_map, List.getElem?_range hm]; rfl)
        have hf := hout.free (i := k / 8) (by rw [List.length_map, hol]; exact hm)
        have HR := Lib.hid hout
        have HP := Lib.hid (packed_set xs k ((xs.length + 7) / 8))
        have HQ := Lib.hid (packed_skip xs k ((xs.length + 7) / 8))
        generalize hx : xs.getD k false = x at hc
        rw [hx] at HP HQ
        clear hout hx hol
        cases x
        · go_wp2
          go_roundw
          case rel => exact ⟨k + 1, by omega, by go_num, by rw [← HQ.out rfl]; exact HR.out, hb⟩
          case measure => simp [intOf]; omega
        · generalize packB (upto xs k) (k / 8) = c at hv HP
          have hc8 := c.toNat_lt
          unfold bv at hv
          go_wp2
          go_region
          go_wp2
          go_roundw
          case rel =>
            refine ⟨k + 1, by omega, by go_num, ?_, (hb.setCell (Nat.le_refl _) _).drew⟩
            have := (HR.out.set (k / 8) (bv (c ||| mask (k % 8)))).drew
            rw [← List.map_set, HP.out trivial hm] at this
            rwa [or_mask]
          case measure => simp [intOf]; omega
      · obtain rfl : k = xs.length := by omega
        have hs := run_string (P := Tryz.prog) (w := wr) 92 9 5 Tryz.underlying92 Tryz.underlying5 Tryz.underlying9 w.heap.size ((xs.length + 7) / 8) ((xs.length + 7) / 8) _ hol.symm hout
        rw [HA.out] at hs
        clear hout hol
        go_wp2
        go_ret
        exact ⟨rfl, hb⟩
end Go.Proofs.YtlllflacnlgigaaGreatDoor
