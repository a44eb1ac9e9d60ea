/- Chapter 10: the walk of BuildBools. -/
import Derived.Test.YtlllflacnlgigaaDoorAwake10
import Derived.Test.YtlllflacnlgigaaDoorLaw10A
import Derived.Test.YtlllflacnlgigaaDoorBools10
import Derived.Deep.CutBlock
import Derived.BigQuiet
namespace Go.Proofs.YtlllflacnlgigaaDoor
open Go.RowKit
set_option linter.unusedVariables false
set_option linter.unusedSimpArgs false

theorem kids_none (w : World) : KidsAt w [] (.slice none 0 0) := by
  rw [KidsAt]
  exact ⟨none, 0, rfl, Nat.le_refl _, by unfold maxLen; decide, fun h => absurd rfl h⟩
/-- The truths that stand in a number's bits. -/
def bitOf (x : Int) (i : Nat) : Bool := decide (bits .and .i64 (x / 2 ^ i) 1 = 1)
def bitsTo (x : Int) (k : Nat) : List Bool := (List.range k).map (bitOf x)
theorem bitsTo_length (x : Int) (k : Nat) : (bitsTo x k).length = k := by simp [bitsTo]
theorem bitsTo_succ (x : Int) (k : Nat) : bitsTo x (k + 1) = bitsTo x k ++ [bitOf x k] := by simp [bitsTo, List.range_succ]
theorem bitsTo_at (x : Int) (n k : Nat) (h : k < n) : (bitsTo x n).getD k false = bitOf x k := by
  rw [List.getD_eq_getElem?_getD, bitsTo, List.getElem?_map, List.getElem?_range h]; rfl
set_option maxRecDepth 100000 in
set_option maxHeartbeats 6400000 in
theorem buildBools_walk (a0 a1 : Int) (W : World) (hv : Vars W) (h0 : (Lit.int .i64 a0).wf = true) (h1 : (Lit.int .i64 a1).wf = true) :
    Calls Tryd.prog 11 #[.int .i64 a0, .int .i64 a1] W fun e w' => e = .returned (.bool true) ∧ Below W.heap.size W w' := by
  have hm0 := mask_range a0 31 (by decide)
  rw [show ((31 : Nat) : Int) = 31 from rfl] at hm0
  obtain ⟨n, hj⟩ : ∃ n : Nat, bits .and .i64 a0 31 = (n : Int) := ⟨(bits .and .i64 a0 31).toNat, by omega⟩
  rw [hj] at hm0
  have hn31 : n ≤ 31 := by omega
  have HJ := Lib.hid hj
  have hmk := fun W => run_makeBytes (P := Tryd.prog) 55 5 Tryd.underlying55 info_u8b ((n + 7) / 8) (by omega) W
  have em : (((n + 7) / 8 : Nat) : Int) = ((n : Int) + 7) / 8 := by omega
  rw [em] at hmk
  have HMK := Lib.hid hmk
  clear hm0 hj h1 em hmk
  go_enter Tryd.func11, Tryd.ntmps11
  go_wp2_with (fail)
  refine (awake10_calls W hv).mono ?_; rintro e w1 ⟨rfl, HB⟩
  have hj := HJ.out
  have hmk := HMK.out
  go_wp2_with (fail)
  obtain ⟨wa, hwa⟩ : ∃ wa, w1.alloc (.cells #[.int .i64 1, .int .i64 (-1), .bool false] 37) = wa := ⟨_, rfl⟩
  have hsa : wa.heap.size = w1.heap.size + 1 := by rw [← hwa]; simp
  have NA : NodesAt wa (.slice (some ⟨w1.heap.size, 0, none⟩) 1 1) tyB10 := by rw [← hwa]; exact nodes_lit1 w1 1 (-1) false
  have HBa : Below W.heap.size W wa := by rw [← hwa]; exact below_alloc HB _
  have hW1 := HB.size
  rw [hwa]
  clear hwa HB
  obtain ⟨wb, hwb⟩ : ∃ wb, wa.alloc (.cells #[.slice (some ⟨w1.heap.size, 0, none⟩) 1 1] 40) = wb := ⟨_, rfl⟩
  have hsb : wb.heap.size = w1.heap.size + 1 + 1 := by rw [← hwb]; simp; omega
  have CB : wb.heap[w1.heap.size + 1]? = some (.cells #[.slice (some ⟨w1.heap.size, 0, none⟩) 1 1] 40) := by rw [← hwb, ← hsa]; exact heap_alloc_new _ _
  have HBb : Below W.heap.size W wb := by rw [← hwb]; exact below_alloc HBa _
  have NB : NodesAt wb (.slice (some ⟨w1.heap.size, 0, none⟩) 1 1) tyB10 := by rw [← hwb]; exact NA.below (below_alloc (Below.refl _ _) _)
  rw [hwb]
  clear hwb HBa NA hsa
  obtain ⟨w3, hw3⟩ : ∃ w3, wb.alloc (.cells (Array.replicate ((n + 7) / 8) (bv 0)) 5) = w3 := ⟨_, rfl⟩
  have RB : Row w3 (w1.heap.size + 1 + 1) 5 ((Bt.bytesOf (Bt.upto (bitsTo a1 n) 0) ((n + 7) / 8)).map bv) := by
    rw [← hw3, Bt.packed_none, ← hsb]; simpa using Row.new wb 5 ((List.replicate ((n + 7) / 8) (0 : UInt8)).map bv).toArray
  have HX3 : Below wb.heap.size wb w3 := by rw [← hw3]; exact below_alloc (Below.refl _ _) _
  have hs3 : w3.heap.size = w1.heap.size + 1 + 1 + 1 := by rw [← hw3]; simp; omega
  rw [hw3]
  clear hw3 hmk
  have hxl := bitsTo_length a1 n
  have HXS := Lib.hid (bitsTo_succ a1)
  have HXA := Lib.hid (fun k h => bitsTo_at a1 n k h)
  go_loopw [7, 9, 10] (fun s7 s9 s10 wr => ∃ k : Nat, k ≤ n ∧ s9 = .int .i64 (k : Int) ∧ wr.ownsRow w3.heap.size 9 1 s7 k (((bitsTo a1 k).map Vp.bool).map tv) ∧ Row wr (w1.heap.size + 1 + 1) 5 ((Bt.bytesOf (Bt.upto (bitsTo a1 n) k) ((n + 7) / 8)).map bv) ∧ Below wb.heap.size wb wr ∧ w3.heap.size ≤ wr.heap.size) (fun _ i _ _ => n - (intOf i).toNat)
  case atStart => exact ⟨0, Nat.zero_le _, rfl, own_nil, RB, HX3, Nat.le_refl _⟩
  case round =>
    obtain ⟨k, hk, rfl, hu, hr, hb, hsz⟩ := hrel
    have HU := Lib.hid hu
    clear RB HX3 hu
    have hol := Bt.bytesOf_length (Bt.upto (bitsTo a1 n) k) ((n + 7) / 8)
    by_cases hlt : k < n
    · have hi : (k : Int) < (n : Int) := by omega
      have hm : k / 8 < (n + 7) / 8 := by omega
      have hm' : (k : Int) / 8 < ((n : Int) + 7) / 8 := by omega
      have hv := hr.cell (i := k / 8) (v := bv (Bt.packB (Bt.upto (bitsTo a1 n) k) (k / 8))) (by rw [List.getElem?_map, Bt.bytesOf, List.getElem?_map, List.getElem?_range hm]; rfl)
      have hf := hr.free (i := k / 8) (by rw [List.length_map, hol]; exact hm)
      have HR := Lib.hid hr
      have HP := Lib.hid (Bt.packed_set (bitsTo a1 n) k ((n + 7) / 8))
      have HQ := Lib.hid (Bt.packed_skip (bitsTo a1 n) k ((n + 7) / 8))
      have hx := HXA.out k hlt
      rw [hx] at HP HQ
      clear hr hx hol
      by_cases hc : bits .and .i64 (a1 / 2 ^ k) 1 = 1
      · have hbk : bitOf a1 k = true := decide_eq_true hc
        rw [hbk] at HP HQ
        generalize Bt.packB (Bt.upto (bitsTo a1 n) k) (k / 8) = c at hv HP
        have hc8 := c.toNat_lt
        unfold bv at hv
        go_upto_region 13 with (fail)
        go_region
        rw [or_mask]
        have hr2 := (HR.out.set (k / 8) (bv (c ||| Bt.mask (k % 8)))).drew
        rw [← List.map_set, HP.out (by first | rfl | trivial) hm] at hr2
        have hu2 : (wr.setCell ⟨w1.heap.size + 1 + 1, k / 8, none⟩ (.int .u8 ((c ||| Bt.mask (k % 8)).toNat : Int))).drew.ownsRow w3.heap.size 9 1 u7 k (((bitsTo a1 k).map Vp.bool).map tv) := ownsRow_setCell_below HU.out (a := ⟨w1.heap.size + 1 + 1, k / 8, none⟩) (by simp only; omega) (.int .u8 ((c ||| Bt.mask (k % 8)).toNat : Int))
        have hb2 := below_drew (below_set hb (p := ⟨w1.heap.size + 1 + 1, k / 8, none⟩) (by simp only; omega) (.int .u8 ((c ||| Bt.mask (k % 8)).toNat : Int)))
        have hz2 : w3.heap.size ≤ (wr.setCell ⟨w1.heap.size + 1 + 1, k / 8, none⟩ (.int .u8 ((c ||| Bt.mask (k % 8)).toNat : Int))).drew.heap.size := by show _ ≤ (wr.setCell ⟨w1.heap.size + 1 + 1, k / 8, none⟩ (.int .u8 ((c ||| Bt.mask (k % 8)).toNat : Int))).heap.size; simp; omega
        unfold bv at hr2
        obtain ⟨wq, hwq⟩ : ∃ wq, (wr.setCell ⟨w1.heap.size + 1 + 1, k / 8, none⟩ (.int .u8 ((c ||| Bt.mask (k % 8)).toNat : Int))).drew = wq := ⟨_, rfl⟩
        rw [hwq] at hr2 hu2 hb2 hz2 ⊢
        clear hwq hv hf hc8 HU HR HP HQ hb hsz
        have HR2 := Lib.hid hr2
        clear hr2
        go_wp2_with (at_builtin; refine wp_app1 rfl _ _ 23 9 rfl w3.heap.size 16 (.string ⟨#[]⟩) Tryd.underlying23 info_string rfl _ _ _ rfl rfl rfl hu2 (by omega) (by omega) hz2 ?_; intro v6 w6 ho6 hb6 hg6)
        go_roundw
        case rel => exact ⟨k + 1, by omega, by go_num, by rw [HXS.out, hbk, List.map_append, List.map_append]; exact ho6, HR2.out.below hb6 (by omega), hb2.trans (hb6.mono (by omega)), Nat.le_trans hz2 hb6.size⟩
        case measure => simp [intOf]; omega
      · have hbk : bitOf a1 k = false := decide_eq_false hc
        rw [hbk] at HP HQ
        clear hv hf
        go_wp2_with (at_builtin; refine wp_app1 rfl _ _ 23 9 rfl w3.heap.size 16 (.string ⟨#[]⟩) Tryd.underlying23 info_string rfl _ _ _ rfl rfl rfl HU.out (by omega) (by omega) hsz ?_; intro v6 w6 ho6 hb6 hg6)
        go_roundw
        case rel => exact ⟨k + 1, by omega, by go_num, by rw [HXS.out, hbk, List.map_append, List.map_append]; exact ho6, by rw [← HQ.out (by first | rfl | trivial)]; exact HR.out.below hb6 (by omega), hb.trans (hb6.mono (by omega)), Nat.le_trans hsz hb6.size⟩
        case measure => simp [intOf]; omega
    · obtain rfl : k = n := by omega
      have hxs : (bitsTo a1 k).length = k := bitsTo_length a1 k
      have hpk : Bt.bytesOf (Bt.upto (bitsTo a1 k) k) ((k + 7) / 8) = Bt.packed (bitsTo a1 k) := by
        have := Bt.packed_all (bitsTo a1 k)
        rwa [hxs] at this
      rw [hpk] at hr hol
      have HOL := Lib.hid hol
      have HR := Lib.hid hr
      have HBW := Lib.hid hb
      have hbl := bools_built (bitsTo a1 k) (by rw [hxs]; omega)
      rw [hxs] at hbl
      have HBL := Lib.hid hbl
      have HHX := Lib.hid hxs
      have hcl := cell_of_one ((hb.block (w1.heap.size + 1) (by omega)).trans CB)
      clear hr hpk hol hb hbl hxs hxl
      go_wp2_with (fail)
      refine (buildK _ _ tyB10 0 ((bitsTo a1 k).map Vp.bool) _ HBL.out (NB.below HBW.out) (own_texts (by rw [List.length_map, HHX.out]; exact HU.out)) (hv.below (HBb.trans (HBW.out.mono HBb.size)) hv.six) (by decide) ?_ (by rw [List.length_map, HHX.out]; omega)).mono ?_
      · intro t ht
        obtain ⟨b, _, rfl⟩ := List.mem_map.1 ht
        cases b <;> decide
      rintro e w4 ⟨a4, c4, rfl, hk4, hb4⟩
      have HB4 := below_then (HBb.trans (HBW.out.mono HBb.size)) hb4
      have HR4 := HR.out.below hb4 HR.out.lt
      clear hcl hb4
      have HR5 := HR4.alloc (.cells #[.int .i64 0, .int .i64 0, .int .i64 (k : Int), .string ⟨#[]⟩, .string ⟨#[]⟩, tv (Bt.packed (bitsTo a1 k)), .slice a4 0 c4] 51)
      have hbE := below_alloc (Below.refl w4.heap.size w4) (.cells #[.int .i64 0, .int .i64 0, .int .i64 (k : Int), .string ⟨#[]⟩, .string ⟨#[]⟩, tv (Bt.packed (bitsTo a1 k)), .slice a4 0 c4] 51)
      have hst := run_string (P := Tryd.prog) (w := w4.alloc (.cells #[.int .i64 0, .int .i64 0, .int .i64 (k : Int), .string ⟨#[]⟩, .string ⟨#[]⟩, tv (Bt.packed (bitsTo a1 k)), .slice a4 0 c4] 51)) 55 9 5 Tryd.underlying55 Tryd.underlying5 Tryd.underlying9 (w1.heap.size + 1 + 1) ((k + 7) / 8) ((k + 7) / 8) _ HOL.out.symm HR5
      clear HR4 HR5
      go_wp2_with (go_at_call 15; refine (num_calls _ _).mono ?_; rintro e w' ⟨rfl, rfl⟩)
      refine (sameArray_calls (.mk 0 0 k [] [] (Bt.packed (bitsTo a1 k)) []) (.mk 0 0 k [] [] (Bt.packed (bitsTo a1 k)) []) _ _ _ (arrAt_below ⟨_, rfl, hk4.at⟩ hbE) ⟨_, rfl, kids_none _⟩).mono ?_
      rw [(Arr.same_eq (.mk 0 0 k [] [] (Bt.packed (bitsTo a1 k)) []) _).2 rfl]
      rintro e w9 ⟨rfl, hb9⟩
      have HB9 := Lib.hid (below_then (below_then HB4 hbE) hb9)
      clear hb9 hk4 hbE HB4
      go_wp2
      go_ret
      exact ⟨rfl, HB9.out⟩
end Go.Proofs.YtlllflacnlgigaaDoor
